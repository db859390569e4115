/- Texts merged: BTarget BPlaces -/
import Derived.Test.YtepidpegoihllaaGreatDoorBCtx
/- basin.target. -/
namespace Go.Proofs.YtepidpegoihllaaGreatDoor
open Go.RowKit
def targB (n : Nat) (src dst : Int) : Bool := dst == -1 || (inB dst 0 ((n : Int) - 1) && dst != src)
theorem targB_iff {n : Nat} {src dst : Int} (h : targB n src dst = true) : dst = -1 ∨ (0 ≤ dst ∧ dst < n) := by
  unfold targB at h
  simp only [Bool.or_eq_true, Bool.and_eq_true, beq_iff_eq] at h
  rcases h with h | ⟨h, _⟩
  · exact Or.inl h
  · have := inB_iff.1 h
    exact Or.inr (by omega)
set_option maxRecDepth 100000 in
set_option maxHeartbeats 4000000 in
theorem target_any (b : BasinV) (p0 p1 p2 p3 p4 p5 p6 p7 : Option Addr) (q0 q1 q2 q3 q4 q5 q6 q7 : Nat) (src dst : Int) (w : World) (hn : b.places.length ≤ 1000) : Calls Tryz.prog 63 #[.agg #[.string b.name, .slice p0 b.owners.length q0, .int .i64 b.cells, .slice p1 b.places.length q1, .slice p2 b.links.length q2, .slice p3 b.towns.length q3, .slice p4 b.gauges.length q4, .slice p5 b.roads.length q5, .slice p6 b.shelters.length q6, .slice p7 b.room.length q7, .int .i64 b.err], .int .i64 src, .int .i64 dst] w (RetB (targB b.places.length src dst) w) := by
  cases h1 : (dst == -1)
  · cases h2 : inB dst 0 ((b.places.length : Int) - 1)
    · have HE : Hid (targB b.places.length src dst = false) := Lib.hid (by unfold targB; rw [h1, h2]; rfl)
      have H2 := Lib.hid h2
      clear h2
      go_enter Tryz.func63, Tryz.ntmps63
      go_wp2_with fail
      refine (index_any dst (b.places.length : Nat) _ (by omega)).mono ?_
      rintro e w1 ⟨rfl, rfl⟩
      rw [H2.out]
      go_wp2_with fail
      go_ret
      exact retB_mk HE.out ((Below.refl _ _).alloc (Nat.le_refl _) _)
    · cases h3 : (dst != src)
      · have HE : Hid (targB b.places.length src dst = false) := Lib.hid (by unfold targB; rw [h1, h2, h3]; rfl)
        have H2 := Lib.hid h2
        clear h2
        go_enter Tryz.func63, Tryz.ntmps63
        go_wp2_with fail
        refine (index_any dst (b.places.length : Nat) _ (by omega)).mono ?_
        rintro e w1 ⟨rfl, rfl⟩
        rw [H2.out]
        go_wp2_with fail
        go_ret
        exact retB_mk HE.out ((Below.refl _ _).alloc (Nat.le_refl _) _)
      · have HE : Hid (targB b.places.length src dst = true) := Lib.hid (by unfold targB; rw [h1, h2, h3]; rfl)
        have H2 := Lib.hid h2
        clear h2
        go_enter Tryz.func63, Tryz.ntmps63
        go_wp2_with fail
        refine (index_any dst (b.places.length : Nat) _ (by omega)).mono ?_
        rintro e w1 ⟨rfl, rfl⟩
        rw [H2.out]
        go_wp2_with fail
        go_ret
        exact retB_mk HE.out ((Below.refl _ _).alloc (Nat.le_refl _) _)
  · have HE : Hid (targB b.places.length src dst = true) := Lib.hid (by unfold targB; rw [h1]; rfl)
    go_enter Tryz.func63, Tryz.ntmps63
    go_wp2_with fail
    go_ret
    exact retB_mk HE.out ((Below.refl _ _).alloc (Nat.le_refl _) _)
end Go.Proofs.YtepidpegoihllaaGreatDoor
/- basin.rightPlaces. -/
namespace Go.Proofs.YtepidpegoihllaaGreatDoor
open Go.RowKit
theorem undCe : Tryz.prog.underlying 114 = some (.struct (Tryz.prog.fieldsOf 114)) := by kernel_rfl
theorem infoCe : (Tryz.prog.info? 114).map (·.size) = some 2 := by kernel_rfl
def PlaceR (b : BasinV) (x : PlaceV) : Prop := (0 ≤ x.kind ∧ x.kind ≤ 3) ∧ (0 ≤ x.office ∧ x.office ≤ 2) ∧ (0 ≤ x.delay ∧ x.delay ≤ 240) ∧ (0 ≤ x.cap ∧ x.cap ≤ 1125899906842624) ∧ (0 ≤ x.floor ∧ x.floor ≤ 1125899906842624) ∧ rightC x.level = true ∧ x.start.length = b.owners.length ∧
  (0 ≤ x.num ∧ x.num ≤ 1125899906842624 ∧ 0 ≤ x.den ∧ x.den ≤ 1125899906842624 ∧ (x.den = 0 → x.num = 0)) ∧ (x.down = -1 ∨ (0 ≤ x.down ∧ x.down < b.places.length)) ∧ (∀ y ∈ x.start, 0 ≤ y ∧ y ≤ 1125899906842624)
theorem places_succ {b : BasinV} {k : Nat} {x : PlaceV} (hx : b.places[k]? = some x) (h : ∀ (j : Nat) (y : PlaceV), j < k → b.places[j]? = some y → PlaceR b y) (h1 : PlaceR b x) : ∀ (j : Nat) (y : PlaceV), j < k + 1 → b.places[j]? = some y → PlaceR b y := fun j y hj hy => by
  rcases Nat.lt_or_eq_of_le (show j ≤ k by omega) with h2 | rfl
  · exact h j y h2 hy
  · rw [hx] at hy; cases hy; exact h1
set_option maxRecDepth 100000 in
set_option maxHeartbeats 8000000 in
theorem places_right (b : BasinV) (p0 p1 p2 p3 p4 p5 p6 p7 : Option Addr) (q0 q1 q2 q3 q4 q5 q6 q7 : Nat) (w : World) (hS : BasinS b p0 p1 p2 p3 p4 p5 p6 p7 q0 q1 q2 q3 q4 q5 q6 q7 w) (hN : BasinLen b) : Calls Tryz.prog 23 #[.agg #[.string b.name, .slice p0 b.owners.length q0, .int .i64 b.cells, .slice p1 b.places.length q1, .slice p2 b.links.length q2, .slice p3 b.towns.length q3, .slice p4 b.gauges.length q4, .slice p5 b.roads.length q5, .slice p6 b.shelters.length q6, .slice p7 b.room.length q7, .int .i64 b.err]] w (RetT (∀ y ∈ b.places, PlaceR b y) w) := by
  have HS := Lib.hid hS
  obtain ⟨n0, n0', n1, n1', n2, n3, n4, n5, n6, n7⟩ := hN
  clear hS
  go_enter Tryz.func23, Tryz.ntmps23
  go_upto_region 1 with fail
  have HR0 := Lib.hid (heap_alloc_new w (.cells #[.string b.name, .slice p0 b.owners.length q0, .int .i64 b.cells, .slice p1 b.places.length q1, .slice p2 b.links.length q2, .slice p3 b.towns.length q3, .slice p4 b.gauges.length q4, .slice p5 b.roads.length q5, .slice p6 b.shelters.length q6, .slice p7 b.room.length q7, .int .i64 b.err] 31))
  have HB0 := Lib.hid ((Below.refl w.heap.size w).alloc (Nat.le_refl _) (.cells #[.string b.name, .slice p0 b.owners.length q0, .int .i64 b.cells, .slice p1 b.places.length q1, .slice p2 b.links.length q2, .slice p3 b.towns.length q3, .slice p4 b.gauges.length q4, .slice p5 b.roads.length q5, .slice p6 b.shelters.length q6, .slice p7 b.room.length q7, .int .i64 b.err] 31))
  generalize w.alloc (.cells #[.string b.name, .slice p0 b.owners.length q0, .int .i64 b.cells, .slice p1 b.places.length q1, .slice p2 b.links.length q2, .slice p3 b.towns.length q3, .slice p4 b.gauges.length q4, .slice p5 b.roads.length q5, .slice p6 b.shelters.length q6, .slice p7 b.room.length q7, .int .i64 b.err] 31) = w0 at *
  have b3 := rowNG HR0.out 3 (.slice p1 b.places.length q1) rfl
  go_wp2_with fail
  clear b3
  go_loopw [3, 14] (fun sv iv wr => ∃ (s : Int) (k : Nat), sv = .int .i64 s ∧ iv = .int .i64 k ∧ k ≤ b.places.length ∧ 0 ≤ s ∧ s ≤ k * 18014398509481984 ∧ (∀ (j : Nat) (y : PlaceV), j < k → b.places[j]? = some y → PlaceR b y) ∧ wr.heap[w.heap.size]? = some (.cells #[.string b.name, .slice p0 b.owners.length q0, .int .i64 b.cells, .slice p1 b.places.length q1, .slice p2 b.links.length q2, .slice p3 b.towns.length q3, .slice p4 b.gauges.length q4, .slice p5 b.roads.length q5, .slice p6 b.shelters.length q6, .slice p7 b.room.length q7, .int .i64 b.err] 31 (0, 0)) ∧ Below w.heap.size w wr) (fun _ iv _ => b.places.length - (Go.RowKit.intOf iv).toNat)
  case atStart => exact ⟨0, 0, rfl, rfl, Nat.zero_le _, by decide, by decide, (fun j y hj => by omega), HR0.out, HB0.out⟩
  case round =>
    obtain ⟨s, k, rfl, rfl, hk, s1, s2, hok, hrow, hb⟩ := hrel
    have HOK := Lib.hid hok
    have HRr := Lib.hid hrow
    have HBr := Lib.hid hb
    clear hok hrow hb
    by_cases hlt : k < b.places.length
    · obtain ⟨x, hx⟩ : ∃ x, b.places[k]? = some x := ⟨_, List.getElem?_eq_getElem hlt⟩
      obtain ⟨g, o, cs, ha, hbl, -, hrg, hcs⟩ := (HS.out.below HBr.out).l1.at hx
      subst ha
      obtain ⟨v0, v1, v2, rfl, -, -, -, -, -, -, -, -, -, hv0, hv1, hv2⟩ := hcs
      obtain ⟨a0, n0, rfl, -, -⟩ := hv0.slice
      obtain ⟨a1, n1, rfl, -, -⟩ := hv1.slice
      obtain ⟨a2, n2, rfl, m2, m2'⟩ := hv2.slice
      unfold maxLen at m2'
      have HX := Lib.hid hx
      have hst : Below wr.heap.size wr (wr.alloc (.cells #[.string x.name, .int .i64 x.kind, .int .i64 x.office, .int .i64 x.cap, .slice a0 x.level.length n0, .slice a1 x.start.length n1, .int .i64 x.num, .int .i64 x.den, .int .i64 x.down, .int .i64 x.delay, .int .i64 x.floor, .slice a2 x.rain.length n2] 68)) := (Below.refl _ _).alloc (Nat.le_refl _) (.cells #[.string x.name, .int .i64 x.kind, .int .i64 x.office, .int .i64 x.cap, .slice a0 x.level.length n0, .slice a1 x.start.length n1, .int .i64 x.num, .int .i64 x.den, .int .i64 x.down, .int .i64 x.delay, .int .i64 x.floor, .slice a2 x.rain.length n2] 68)
      have HR3 := Lib.hid (blk_below HRr.out hst (blk_lt HRr.out))
      have HB3 := Lib.hid (HBr.out.alloc HBr.out.size (.cells #[.string x.name, .int .i64 x.kind, .int .i64 x.office, .int .i64 x.cap, .slice a0 x.level.length n0, .slice a1 x.start.length n1, .int .i64 x.num, .int .i64 x.den, .int .i64 x.down, .int .i64 x.delay, .int .i64 x.floor, .slice a2 x.rain.length n2] 68))
      have HX3 := Lib.hid (heap_alloc_new wr (.cells #[.string x.name, .int .i64 x.kind, .int .i64 x.office, .int .i64 x.cap, .slice a0 x.level.length n0, .slice a1 x.start.length n1, .int .i64 x.num, .int .i64 x.den, .int .i64 x.down, .int .i64 x.delay, .int .i64 x.floor, .slice a2 x.rain.length n2] 68))
      have HRG := Lib.hid hrg
      have HW0 := Lib.hid (hv0.below stays_Point hst)
      have HW1 := Lib.hid (hv1.below stays_int hst)
      have HW2 := Lib.hid (hv2.below stays_Cell hst)
      clear hrg hx hv0 hv1 hv2 hst
      go_upto_region 5 with (first | (refine wpList_load_rangeG (by rfl) 68 _ rfl _ _ rfl _ _ HRG.out undPl rfl infoPl ?_) | (refine wpList_store_row rfl 68 _ _ rfl wr.heap.size #[.string x.name, .int .i64 x.kind, .int .i64 x.office, .int .i64 x.cap, .slice a0 x.level.length n0, .slice a1 x.start.length n1, .int .i64 x.num, .int .i64 x.den, .int .i64 x.down, .int .i64 x.delay, .int .i64 x.floor, .slice a2 x.rain.length n2] rfl rfl 68 #[.string ⟨#[]⟩, .int .i64 0, .int .i64 0, .int .i64 0, .slice none 0 0, .slice none 0 0, .int .i64 0, .int .i64 0, .int .i64 0, .int .i64 0, .int .i64 0, .slice none 0 0] (heap_alloc_new wr (.cells #[.string ⟨#[]⟩, .int .i64 0, .int .i64 0, .int .i64 0, .slice none 0 0, .slice none 0 0, .int .i64 0, .int .i64 0, .int .i64 0, .int .i64 0, .int .i64 0, .slice none 0 0] 68)) infoPl rfl (by simp [Value.oneCell']) ?_))
      rw [World.setRow_alloc_new]
      generalize wr.alloc (.cells #[.string x.name, .int .i64 x.kind, .int .i64 x.office, .int .i64 x.cap, .slice a0 x.level.length n0, .slice a1 x.start.length n1, .int .i64 x.num, .int .i64 x.den, .int .i64 x.down, .int .i64 x.delay, .int .i64 x.floor, .slice a2 x.rain.length n2] 68) = w3 at *
      generalize wr.heap.size = bx at *
      have d1 := rowNG HX3.out 1 (.int .i64 x.kind) rfl
      have d2 := rowNG HX3.out 2 (.int .i64 x.office) rfl
      have d3 := rowNG HX3.out 3 (.int .i64 x.cap) rfl
      have d9 := rowNG HX3.out 9 (.int .i64 x.delay) rfl
      have d10 := rowNG HX3.out 10 (.int .i64 x.floor) rfl
      have d4 := rowNG HX3.out 4 (.slice a0 x.level.length n0) rfl
      go_wp2_with fail
      refine (in_anyG x.kind 0 3 _).mono ?_
      rintro e wq ⟨rfl, rfl⟩
      cases hB5 : inB x.kind 0 3
      · go_wp2_with fail
        go_ret
        exact retT_no HB3.out
      · have HB_5 := Lib.hid hB5
        clear hB5
        go_wp2_with fail
        refine (in_anyG x.office 0 2 _).mono ?_
        rintro e wq ⟨rfl, rfl⟩
        cases hB4 : inB x.office 0 2
        · go_wp2_with fail
          go_ret
          exact retT_no HB3.out
        · have HB_4 := Lib.hid hB4
          clear hB4
          go_wp2_with fail
          refine (in_anyG x.delay 0 240 _).mono ?_
          rintro e wq ⟨rfl, rfl⟩
          cases hB3 : inB x.delay 0 240
          · go_wp2_with fail
            go_ret
            exact retT_no HB3.out
          · have HB_3 := Lib.hid hB3
            clear hB3
            go_wp2_with fail
            refine (volume_any x.cap _).mono ?_
            rintro e wq ⟨rfl, rfl⟩
            cases hB2 : volB x.cap
            · go_wp2_with fail
              go_ret
              exact retT_no HB3.out
            · have HB_2 := Lib.hid hB2
              clear hB2
              go_wp2_with fail
              refine (volume_any x.floor _).mono ?_
              rintro e wq ⟨rfl, rfl⟩
              cases hB1 : volB x.floor
              · go_wp2_with fail
                go_ret
                exact retT_no HB3.out
              · have HB_1 := Lib.hid hB1
                clear hB1
                go_wp2_with fail
                refine (right_anyG x.level (.slice a0 x.level.length n0) _ HW0.out).mono ?_
                rintro e w4 ⟨rfl, hb⟩
                have HQ4 := Lib.hid hb
                have HR4 := Lib.hid (blk_below HR3.out hb (blk_lt HR3.out))
                have HX4 := Lib.hid (blk_below HX3.out hb (blk_lt HX3.out))
                have HB4 := Lib.hid (HB3.out.trans (hb.mono HB3.out.size))
                clear hb HR3 HX3 HB3 d1 d2 d3 d9 d10 d4
                cases hRC : rightC x.level
                · go_wp2_with fail
                  go_ret
                  exact retT_no HB4.out
                · have HRC := Lib.hid hRC
                  clear hRC
                  have d5 := rowNG HX4.out 5 (.slice a1 x.start.length n1) rfl
                  have d6 := rowNG HX4.out 6 (.int .i64 x.num) rfl
                  have d7 := rowNG HX4.out 7 (.int .i64 x.den) rfl
                  have d8 := rowNG HX4.out 8 (.int .i64 x.down) rfl
                  have b1 := rowNG HR4.out 1 (.slice p0 b.owners.length q0) rfl
                  by_cases hN : x.start.length = b.owners.length
                  rotate_left 1
                  · have q1 : ((x.start.length : Int) != (b.owners.length : Int)) = true := by rw [bne_iff_ne]; omega
                    go_wp2_with fail
                    go_ret
                    exact retT_no HB4.out
                  · have q1 : ((x.start.length : Int) != (b.owners.length : Int)) = false := by rw [hN]; simp
                    have HNN := Lib.hid hN
                    have hs16 : x.start.length ≤ 16 := by omega
                    clear hN
                    go_wp2_with fail
                    refine (fraction_any x.num x.den _).mono ?_
                    rintro e wq ⟨rfl, rfl⟩
                    cases hFR : fracB x.num x.den
                    · go_wp2_with fail
                      go_ret
                      exact retT_no HB4.out
                    · have HFR := Lib.hid hFR
                      clear hFR
                      go_wp2_with (refine wpList_load_rowWG (by first | (go_simp; done) | rfl) 31 _ rfl _ rfl 31 _ _ _ HR4.out undBa rfl infoBa ?_)
                      refine (target_any b _ _ _ _ _ _ _ _ _ _ _ _ _ _ _ _ k x.down _ (by omega)).mono ?_
                      rintro e w5 ⟨rfl, hb⟩
                      have HQ5 := Lib.hid (HQ4.out.trans (hb.mono HQ4.out.size))
                      have HR5 := Lib.hid (blk_below HR4.out hb (blk_lt HR4.out))
                      have HX5 := Lib.hid (blk_below HX4.out hb (blk_lt HX4.out))
                      have HB5 := Lib.hid (HB4.out.trans (hb.mono HB4.out.size))
                      clear hb HR4 HX4 HB4 d5 d6 d7 d8 b1
                      cases hTG : targB b.places.length k x.down
                      · go_wp2_with fail
                        go_ret
                        exact retT_no HB5.out
                      · have HTG := Lib.hid hTG
                        clear hTG
                        have d5 := rowNG HX5.out 5 (.slice a1 x.start.length n1) rfl
                        go_wp2_with fail
                        go_loopw [3, 81] (fun sv iv wx => ∃ (t : Int) (i : Nat), sv = .int .i64 t ∧ iv = .int .i64 i ∧ i ≤ x.start.length ∧ s ≤ t ∧ t ≤ s + i * 1125899906842624 ∧ (∀ (j : Nat) (y : Int), j < i → x.start[j]? = some y → 0 ≤ y ∧ y ≤ 1125899906842624) ∧ Below w5.heap.size w5 wx) (fun _ iv _ => x.start.length - (Go.RowKit.intOf iv).toNat)
                        case atStart => exact ⟨s, 0, rfl, rfl, Nat.zero_le _, Int.le_refl _, by omega, (fun j y hj => by omega), Below.refl _ _⟩
                        case round =>
                          obtain ⟨t, i, rfl, rfl, i1, t1, t2, hst, hb⟩ := hrel
                          have HST := Lib.hid hst
                          have HBx := Lib.hid hb
                          have HRx := Lib.hid (blk_below HR5.out hb (blk_lt HR5.out))
                          have HXx := Lib.hid (blk_below HX5.out hb (blk_lt HX5.out))
                          have HBX := Lib.hid (HB5.out.trans (hb.mono HB5.out.size))
                          clear hb hst d5
                          by_cases hli : i < x.start.length
                          · obtain ⟨n, hn⟩ : ∃ n, x.start[i]? = some n := ⟨_, List.getElem?_eq_getElem hli⟩
                            obtain ⟨g2, o2, cs2, ha2, hbl2, -, hrg2, hcs2⟩ := (HW1.out.below stays_int (HQ5.out.trans (HBx.out.mono HQ5.out.size))).at hn
                            cases ha2
                            obtain ⟨rfl, hn1, hn2⟩ := hcs2
                            have c0 : wr.cell? ⟨g2, o2 + i * 1, none⟩ = some (.int .i64 n) := hrg2 0 _ rfl
                            rw [Nat.mul_one] at c0
                            have HN := Lib.hid hn
                            clear hrg2 hn
                            go_wp2_with fail
                            refine (volume_any n _).mono ?_
                            rintro e wq ⟨rfl, rfl⟩
                            cases hV : volB n
                            · clear c0
                              go_wp2_with fail
                              go_ret
                              exact retT_no HBX.out
                            · have hv := volB_iff.1 hV
                              clear hV c0
                              have F1 : IntKind.i64.wrap (t + n) = t + n := IntWalk.i64_in _ (by omega)
                              have HNS : Hid (∀ (j : Nat) (y : Int), j < i + 1 → x.start[j]? = some y → 0 ≤ y ∧ y ≤ 1125899906842624) := Lib.hid fun j y hj hy => by
                                rcases Nat.lt_or_eq_of_le (show j ≤ i by omega) with h2 | rfl
                                · exact HST.out j y h2 hy
                                · rw [HN.out] at hy; cases hy; exact hv
                              go_wp2_with fail
                              clear F1
                              go_roundw
                              case rel => exact ⟨t + n, i + 1, rfl, by go_num, by omega, by omega, by omega, HNS.out, HBx.out⟩
                              case measure => simp [Go.RowKit.intOf]; omega
                          · have HALLS : Hid (∀ y ∈ x.start, 0 ≤ y ∧ y ≤ 1125899906842624) := Lib.hid fun y hy => by
                              obtain ⟨j, hj⟩ := List.getElem?_of_mem hy
                              exact HST.out j y (by have := (List.getElem?_eq_some_iff.1 hj).1; omega) hj
                            have HNX := Lib.hid (places_succ HX.out HOK.out ⟨inB_iff.1 HB_5.out, inB_iff.1 HB_4.out, inB_iff.1 HB_3.out, volB_iff.1 HB_2.out, volB_iff.1 HB_1.out, HRC.out, HNN.out, fracB_iff.1 HFR.out, targB_iff HTG.out, HALLS.out⟩)
                            have HW2x := Lib.hid (HW2.out.below stays_Cell (HQ5.out.trans (HBx.out.mono HQ5.out.size)))
                            have d11 := rowNG HXx.out 11 (.slice a2 x.rain.length n2) rfl
                            clear HST
                            go_wp2_with fail
                            go_loopw [8, 95] (fun lv iv wy => ∃ (m : Int) (i : Nat), lv = .int .i64 m ∧ iv = .int .i64 i ∧ i ≤ x.rain.length ∧ Below wr.heap.size wr wy) (fun _ iv _ => x.rain.length - (Go.RowKit.intOf iv).toNat)
                            case atStart => exact ⟨-1, 0, rfl, rfl, Nat.zero_le _, Below.refl _ _⟩
                            case round =>
                              obtain ⟨m, i, rfl, rfl, i1, hb⟩ := hrel
                              have HBy := Lib.hid hb
                              have HRy := Lib.hid (blk_below HRx.out hb (blk_lt HRx.out))
                              have HBW := Lib.hid (HBX.out.trans (hb.mono HBX.out.size))
                              clear hb d11
                              by_cases hli : i < x.rain.length
                              · obtain ⟨c, hc⟩ : ∃ c, x.rain[i]? = some c := ⟨_, List.getElem?_eq_getElem hli⟩
                                obtain ⟨g2, o2, cs2, ha2, hbl2, -, hrg2, hcs2⟩ := (HW2x.out.below stays_Cell HBy.out).at hc
                                cases ha2
                                obtain ⟨rfl, hbds⟩ := hcs2
                                clear hc hbds
                                have HR7 := Lib.hid (blk_below HRy.out ((Below.refl _ _).alloc (Nat.le_refl _) (.cells #[.int .i64 c.index, .int .i64 c.area] 114)) (blk_lt HRy.out))
                                have HB7 := Lib.hid (HBW.out.alloc HBW.out.size (.cells #[.int .i64 c.index, .int .i64 c.area] 114))
                                have HBy7 := Lib.hid (HBy.out.alloc HBy.out.size (.cells #[.int .i64 c.index, .int .i64 c.area] 114))
                                have HX7 := Lib.hid (heap_alloc_new wr (.cells #[.int .i64 c.index, .int .i64 c.area] 114))
                                have HRG := Lib.hid hrg2
                                clear hrg2
                                go_upto_region 18 with (refine wpList_load_rangeG (by rfl) 114 _ rfl _ _ rfl _ _ HRG.out undCe rfl infoCe ?_)
                                generalize wr.alloc (.cells #[.int .i64 c.index, .int .i64 c.area] 114) = w7 at *
                                generalize wr.heap.size = by7 at *
                                have e0 := rowNG HX7.out 0 (.int .i64 c.index) rfl
                                have e1 := rowNG HX7.out 1 (.int .i64 c.area) rfl
                                have b2 := rowNG HR7.out 2 (.int .i64 b.cells) rfl
                                cases hT1 : decide (c.index ≤ m)
                                rotate_left 1
                                · have t1 := of_decide_eq_true hT1
                                  go_wp2_with fail
                                  go_ret
                                  exact retT_no HB7.out
                                · have t1 := of_decide_eq_false hT1
                                  cases hT2 : decide (b.cells ≤ c.index)
                                  rotate_left 1
                                  · have t2 := of_decide_eq_true hT2
                                    go_wp2_with fail
                                    go_ret
                                    exact retT_no HB7.out
                                  · have t2 := of_decide_eq_false hT2
                                    go_wp2_with fail
                                    refine (volume_any c.area _).mono ?_
                                    rintro e wq ⟨rfl, rfl⟩
                                    cases hV : volB c.area
                                    · go_wp2_with fail
                                      go_ret
                                      exact retT_no HB7.out
                                    · clear hV
                                      go_wp2_with fail
                                      go_roundw
                                      case rel => exact ⟨c.index, i + 1, rfl, by go_num, by omega, HBy7.out⟩
                                      case measure => simp [Go.RowKit.intOf]; omega
                              · go_wp2_with fail
                                go_roundw
                                case rel => exact ⟨t, k + 1, rfl, by go_num, by omega, by omega, by omega, HNX.out, HRy.out, HBW.out⟩
                                case measure => simp [Go.RowKit.intOf]; omega
    · have HALL : Hid (∀ y ∈ b.places, PlaceR b y) := Lib.hid fun y hy => by
        obtain ⟨j, hj⟩ := List.getElem?_of_mem hy
        exact HOK.out j y (by have := (List.getElem?_eq_some_iff.1 hj).1; omega) hj
      go_wp2_with fail
      go_ret
      exact ⟨_, (fun _ => HALL.out), rfl, HBr.out⟩
end Go.Proofs.YtepidpegoihllaaGreatDoor
