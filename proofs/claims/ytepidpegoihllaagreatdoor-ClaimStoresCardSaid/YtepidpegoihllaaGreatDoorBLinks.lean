/- basin.rightLinks. -/
import Derived.Test.YtepidpegoihllaaGreatDoorBPlaces
import Derived.Test.YtepidpegoihllaaGreatDoorBFields
import Derived.Test.YtepidpegoihllaaGreatDoorBUnused
namespace Go.Proofs.YtepidpegoihllaaGreatDoor
open Go.RowKit
def LinkR (b : BasinV) (l : LinkV) : Prop := (0 ≤ l.kind ∧ l.kind ≤ 5) ∧ (0 ≤ l.src ∧ l.src ≤ (b.places.length : Int) - 1) ∧ (l.dst = -1 ∨ (0 ≤ l.dst ∧ l.dst < b.places.length)) ∧ FieldsOk l ∧ UnusedOk l
theorem links_succ {b : BasinV} {k : Nat} {x : LinkV} (hx : b.links[k]? = some x) (h : ∀ (j : Nat) (y : LinkV), j < k → b.links[j]? = some y → LinkR b y) (h1 : LinkR b x) : ∀ (j : Nat) (y : LinkV), j < k + 1 → b.links[j]? = some y → LinkR b y := fun j y hj hy => by
  rcases Nat.lt_or_eq_of_le (show j ≤ k by omega) with h2 | rfl
  · exact h j y h2 hy
  · rw [hx] at hy; cases hy; exact h1
set_option maxRecDepth 100000 in
set_option maxHeartbeats 8000000 in
theorem links_right (b : BasinV) (p0 p1 p2 p3 p4 p5 p6 p7 : Option Addr) (q0 q1 q2 q3 q4 q5 q6 q7 : Nat) (w : World) (hS : BasinS b p0 p1 p2 p3 p4 p5 p6 p7 q0 q1 q2 q3 q4 q5 q6 q7 w) (hN : BasinLen b) : Calls Tryz.prog 24 #[.agg #[.string b.name, .slice p0 b.owners.length q0, .int .i64 b.cells, .slice p1 b.places.length q1, .slice p2 b.links.length q2, .slice p3 b.towns.length q3, .slice p4 b.gauges.length q4, .slice p5 b.roads.length q5, .slice p6 b.shelters.length q6, .slice p7 b.room.length q7, .int .i64 b.err]] w (RetT (∀ y ∈ b.links, LinkR b y) w) := by
  have HS := Lib.hid hS
  obtain ⟨n0, n0', n1, n1', n2, n3, n4, n5, n6, n7⟩ := hN
  clear hS
  go_enter Tryz.func24, Tryz.ntmps24
  go_upto_region 1 with fail
  have HR0 := Lib.hid (heap_alloc_new w (.cells #[.string b.name, .slice p0 b.owners.length q0, .int .i64 b.cells, .slice p1 b.places.length q1, .slice p2 b.links.length q2, .slice p3 b.towns.length q3, .slice p4 b.gauges.length q4, .slice p5 b.roads.length q5, .slice p6 b.shelters.length q6, .slice p7 b.room.length q7, .int .i64 b.err] 31))
  have HB0 := Lib.hid ((Below.refl w.heap.size w).alloc (Nat.le_refl _) (.cells #[.string b.name, .slice p0 b.owners.length q0, .int .i64 b.cells, .slice p1 b.places.length q1, .slice p2 b.links.length q2, .slice p3 b.towns.length q3, .slice p4 b.gauges.length q4, .slice p5 b.roads.length q5, .slice p6 b.shelters.length q6, .slice p7 b.room.length q7, .int .i64 b.err] 31))
  generalize w.alloc (.cells #[.string b.name, .slice p0 b.owners.length q0, .int .i64 b.cells, .slice p1 b.places.length q1, .slice p2 b.links.length q2, .slice p3 b.towns.length q3, .slice p4 b.gauges.length q4, .slice p5 b.roads.length q5, .slice p6 b.shelters.length q6, .slice p7 b.room.length q7, .int .i64 b.err] 31) = w0 at *
  have b4 := rowNG HR0.out 4 (.slice p2 b.links.length q2) rfl
  go_wp2_with fail
  clear b4
  go_loopw [8] (fun iv wr => ∃ k : Nat, k ≤ b.links.length ∧ iv = .int .i64 k ∧ (∀ (j : Nat) (y : LinkV), j < k → b.links[j]? = some y → LinkR b y) ∧ wr.heap[w.heap.size]? = some (.cells #[.string b.name, .slice p0 b.owners.length q0, .int .i64 b.cells, .slice p1 b.places.length q1, .slice p2 b.links.length q2, .slice p3 b.towns.length q3, .slice p4 b.gauges.length q4, .slice p5 b.roads.length q5, .slice p6 b.shelters.length q6, .slice p7 b.room.length q7, .int .i64 b.err] 31 (0, 0)) ∧ Below w.heap.size w wr) (fun iv _ => b.links.length - (Go.RowKit.intOf iv).toNat)
  case atStart => exact ⟨0, Nat.zero_le _, rfl, (fun j y hj => by omega), HR0.out, HB0.out⟩
  case round =>
    obtain ⟨k, hk, rfl, hok, hrow, hb⟩ := hrel
    have HOK := Lib.hid hok
    have HRr := Lib.hid hrow
    have HBr := Lib.hid hb
    clear hok hrow hb
    by_cases hlt : k < b.links.length
    · obtain ⟨x, hx⟩ : ∃ x, b.links[k]? = some x := ⟨_, List.getElem?_eq_getElem hlt⟩
      obtain ⟨g, o, cs, ha, hbl, -, hrg, hcs⟩ := (HS.out.below HBr.out).l2.at hx
      subst ha
      obtain ⟨v0, v1, v2, rfl, -, -, -, -, -, -, -, -, -, -, -, -, -, -, -, hv0, hv1, hv2⟩ := hcs
      obtain ⟨a0, n0, rfl, -, -⟩ := hv0.slice
      obtain ⟨a1, n1, rfl, -, -⟩ := hv1.slice
      obtain ⟨a2, n2, rfl, -, -⟩ := hv2.slice
      have HX := Lib.hid hx
      have hst : Below wr.heap.size wr (wr.alloc (.cells #[.string x.name, .int .i64 x.kind, .int .i64 x.src, .int .i64 x.dst, .slice a0 x.rate.length n0, .slice a1 x.band.lo.length n1, .slice a2 x.band.hi.length n2, .int .i64 x.positions, .int .i64 x.speed, .int .i64 x.leak, .int .i64 x.crest, .int .i64 x.num, .int .i64 x.den, .int .i64 x.prime, .int .i64 x.brk, .int .i64 x.backNum, .int .i64 x.backDen, .int .i64 x.delay] 72)) := (Below.refl _ _).alloc (Nat.le_refl _) (.cells #[.string x.name, .int .i64 x.kind, .int .i64 x.src, .int .i64 x.dst, .slice a0 x.rate.length n0, .slice a1 x.band.lo.length n1, .slice a2 x.band.hi.length n2, .int .i64 x.positions, .int .i64 x.speed, .int .i64 x.leak, .int .i64 x.crest, .int .i64 x.num, .int .i64 x.den, .int .i64 x.prime, .int .i64 x.brk, .int .i64 x.backNum, .int .i64 x.backDen, .int .i64 x.delay] 72)
      have HR3 := Lib.hid (blk_below HRr.out hst (blk_lt HRr.out))
      have HB3 := Lib.hid (HBr.out.alloc HBr.out.size (.cells #[.string x.name, .int .i64 x.kind, .int .i64 x.src, .int .i64 x.dst, .slice a0 x.rate.length n0, .slice a1 x.band.lo.length n1, .slice a2 x.band.hi.length n2, .int .i64 x.positions, .int .i64 x.speed, .int .i64 x.leak, .int .i64 x.crest, .int .i64 x.num, .int .i64 x.den, .int .i64 x.prime, .int .i64 x.brk, .int .i64 x.backNum, .int .i64 x.backDen, .int .i64 x.delay] 72))
      have HX3 := Lib.hid (heap_alloc_new wr (.cells #[.string x.name, .int .i64 x.kind, .int .i64 x.src, .int .i64 x.dst, .slice a0 x.rate.length n0, .slice a1 x.band.lo.length n1, .slice a2 x.band.hi.length n2, .int .i64 x.positions, .int .i64 x.speed, .int .i64 x.leak, .int .i64 x.crest, .int .i64 x.num, .int .i64 x.den, .int .i64 x.prime, .int .i64 x.brk, .int .i64 x.backNum, .int .i64 x.backDen, .int .i64 x.delay] 72))
      have HRG := Lib.hid hrg
      have HW0 := Lib.hid (hv0.below stays_Point hst)
      have HW1 := Lib.hid (hv1.below stays_Point hst)
      have HW2 := Lib.hid (hv2.below stays_Point hst)
      clear hrg hx hv0 hv1 hv2 hst
      go_upto_region 4 with (first | (refine wpList_load_rangeG (by rfl) 72 _ rfl _ _ rfl _ _ HRG.out undLk rfl infoLk ?_) | (refine wpList_store_row rfl 72 _ _ rfl wr.heap.size #[.string x.name, .int .i64 x.kind, .int .i64 x.src, .int .i64 x.dst, .slice a0 x.rate.length n0, .slice a1 x.band.lo.length n1, .slice a2 x.band.hi.length n2, .int .i64 x.positions, .int .i64 x.speed, .int .i64 x.leak, .int .i64 x.crest, .int .i64 x.num, .int .i64 x.den, .int .i64 x.prime, .int .i64 x.brk, .int .i64 x.backNum, .int .i64 x.backDen, .int .i64 x.delay] rfl rfl 72 #[.string ⟨#[]⟩, .int .i64 0, .int .i64 0, .int .i64 0, .slice none 0 0, .slice none 0 0, .slice none 0 0, .int .i64 0, .int .i64 0, .int .i64 0, .int .i64 0, .int .i64 0, .int .i64 0, .int .i64 0, .int .i64 0, .int .i64 0, .int .i64 0, .int .i64 0] (heap_alloc_new wr (.cells #[.string ⟨#[]⟩, .int .i64 0, .int .i64 0, .int .i64 0, .slice none 0 0, .slice none 0 0, .slice none 0 0, .int .i64 0, .int .i64 0, .int .i64 0, .int .i64 0, .int .i64 0, .int .i64 0, .int .i64 0, .int .i64 0, .int .i64 0, .int .i64 0, .int .i64 0] 72)) infoLk rfl (by simp [Value.oneCell']) ?_))
      rw [World.setRow_alloc_new]
      generalize wr.alloc (.cells #[.string x.name, .int .i64 x.kind, .int .i64 x.src, .int .i64 x.dst, .slice a0 x.rate.length n0, .slice a1 x.band.lo.length n1, .slice a2 x.band.hi.length n2, .int .i64 x.positions, .int .i64 x.speed, .int .i64 x.leak, .int .i64 x.crest, .int .i64 x.num, .int .i64 x.den, .int .i64 x.prime, .int .i64 x.brk, .int .i64 x.backNum, .int .i64 x.backDen, .int .i64 x.delay] 72) = w3 at *
      generalize wr.heap.size = bx at *
      have d1 := rowNG HX3.out 1 (.int .i64 x.kind) rfl
      have d2 := rowNG HX3.out 2 (.int .i64 x.src) rfl
      have d3 := rowNG HX3.out 3 (.int .i64 x.dst) rfl
      have d17 := rowNG HX3.out 17 (.int .i64 x.delay) rfl
      have b3 := rowNG HR3.out 3 (.slice p1 b.places.length q1) rfl
      go_wp2_with fail
      refine (in_anyG x.kind 0 5 _).mono ?_
      rintro e wq ⟨rfl, rfl⟩
      cases hKD : inB x.kind 0 5
      · go_wp2_with fail
        go_ret
        exact retT_no HB3.out
      · have HKD := Lib.hid hKD
        clear hKD
        go_wp2_with fail
        refine (index_any x.src (b.places.length : Nat) _ (by omega)).mono ?_
        rintro e wq ⟨rfl, rfl⟩
        cases hSR : inB x.src 0 ((b.places.length : Int) - 1)
        · go_wp2_with fail
          go_ret
          exact retT_no HB3.out
        · have HSR := Lib.hid hSR
          clear hSR
          go_wp2_with (refine wpList_load_rowWG (by first | (go_simp; done) | rfl) 31 _ rfl _ rfl 31 _ _ _ HR3.out undBa rfl infoBa ?_)
          refine (target_any b _ _ _ _ _ _ _ _ _ _ _ _ _ _ _ _ x.src x.dst _ (by omega)).mono ?_
          rintro e w4 ⟨rfl, hb⟩
          have HQ4 := Lib.hid hb
          have HR4 := Lib.hid (blk_below HR3.out hb (blk_lt HR3.out))
          have HX4 := Lib.hid (blk_below HX3.out hb (blk_lt HX3.out))
          have HB4 := Lib.hid (HB3.out.trans (hb.mono HB3.out.size))
          clear hb HR3 HX3 HB3 d1 d2 d3 d17 b3
          have d17 := rowNG HX4.out 17 (.int .i64 x.delay) rfl
          cases hTG : targB b.places.length x.src x.dst
          · go_wp2_with fail
            go_ret
            exact retT_no HB4.out
          · have HTG := Lib.hid hTG
            clear hTG
            go_wp2_with fail
            refine (in_anyG x.delay 0 240 _).mono ?_
            rintro e wq ⟨rfl, rfl⟩
            cases hDL : inB x.delay 0 240
            · go_wp2_with fail
              go_ret
              exact retT_no HB4.out
            · clear hDL d17
              go_wp2_with (refine wpList_load_rowWG (by first | (go_simp; done) | rfl) 72 _ rfl _ rfl 72 _ _ _ HX4.out undLk rfl infoLk ?_)
              refine (fields_any x (.slice a0 x.rate.length n0) (.slice a1 x.band.lo.length n1) (.slice a2 x.band.hi.length n2) _ (inB_iff.1 HKD.out) (HW0.out.below stays_Point HQ4.out) (HW1.out.below stays_Point HQ4.out) (HW2.out.below stays_Point HQ4.out)).mono ?_
              rintro e w5 ⟨bf, hbf, rfl, hb⟩
              have HQ5 := Lib.hid (HQ4.out.trans (hb.mono HQ4.out.size))
              have HR5 := Lib.hid (blk_below HR4.out hb (blk_lt HR4.out))
              have HX5 := Lib.hid (blk_below HX4.out hb (blk_lt HX4.out))
              have HB5 := Lib.hid (HB4.out.trans (hb.mono HB4.out.size))
              have HBF := Lib.hid hbf
              clear hb hbf HR4 HX4 HB4
              cases bf
              · go_wp2_with fail
                go_ret
                exact retT_no HB5.out
              · go_wp2_with (refine wpList_load_rowWG (by first | (go_simp; done) | rfl) 72 _ rfl _ rfl 72 _ _ _ HX5.out undLk rfl infoLk ?_)
                refine (unused_any x (.slice a0 x.rate.length n0) (.slice a1 x.band.lo.length n1) (.slice a2 x.band.hi.length n2) _ (inB_iff.1 HKD.out) (HW0.out.below stays_Point HQ5.out) (HW1.out.below stays_Point HQ5.out) (HW2.out.below stays_Point HQ5.out)).mono ?_
                rintro e w6 ⟨bu, hbu, rfl, hb⟩
                have HR6 := Lib.hid (blk_below HR5.out hb (blk_lt HR5.out))
                have HX6 := Lib.hid (blk_below HX5.out hb (blk_lt HX5.out))
                have HB6 := Lib.hid (HB5.out.trans (hb.mono HB5.out.size))
                have HBU := Lib.hid hbu
                clear hb hbu HR5 HX5 HB5
                cases bu
                · go_wp2_with fail
                  go_ret
                  exact retT_no HB6.out
                · have HNX := Lib.hid (links_succ HX.out HOK.out ⟨inB_iff.1 HKD.out, inB_iff.1 HSR.out, targB_iff HTG.out, HBF.out (by trivial), HBU.out (by trivial)⟩)
                  go_wp2_with fail
                  go_roundw
                  case rel => exact ⟨k + 1, by omega, by go_num, HNX.out, HR6.out, HB6.out⟩
                  case measure => simp [Go.RowKit.intOf]; omega
    · have HALL : Hid (∀ y ∈ b.links, LinkR b y) := Lib.hid fun y hy => by
        obtain ⟨j, hj⟩ := List.getElem?_of_mem hy
        exact HOK.out j y (by have := (List.getElem?_eq_some_iff.1 hj).1; omega) hj
      go_wp2_with fail
      go_ret
      exact retT_yes HALL.out HBr.out
end Go.Proofs.YtepidpegoihllaaGreatDoor

