/- Texts merged: BNext BOffices -/
import Derived.Test.YtepidpegoihllaaGreatDoorBPlaces
import Derived.Test.YtepidpegoihllaaGreatDoorBLinks
/- basin.next. -/
namespace Go.Proofs.YtepidpegoihllaaGreatDoor
open Go.RowKit
set_option maxRecDepth 100000 in
set_option maxHeartbeats 4000000 in
theorem next_any (b : BasinV) (p0 p1 p2 p3 p4 p5 p6 p7 : Option Addr) (q0 q1 q2 q3 q4 q5 q6 q7 : Nat) (office dst : Int) (w : World) (hpl : LArg RPlace 12 (.slice p1 b.places.length q1) b.places w) (hd : dst = -1 ∨ (0 ≤ dst ∧ dst < b.places.length)) (ho : 0 ≤ office ∧ office ≤ 1000) : Calls Tryz.prog 67 #[.agg #[.string b.name, .slice p0 b.owners.length q0, .int .i64 b.cells, .slice p1 b.places.length q1, .slice p2 b.links.length q2, .slice p3 b.towns.length q3, .slice p4 b.gauges.length q4, .slice p5 b.roads.length q5, .slice p6 b.shelters.length q6, .slice p7 b.room.length q7, .int .i64 b.err], .int .i64 office, .int .i64 dst] w (RetT True w) := by
  have HP := Lib.hid hpl
  obtain ⟨o1, o2⟩ := ho
  clear hpl
  by_cases h1 : dst = -1
  · have t1 : (dst == -1) = true := beq_iff_eq.2 h1
    clear hd h1
    go_enter Tryz.func67, Tryz.ntmps67
    go_upto_region 1 with fail
    have HR0 := Lib.hid (heap_alloc_new w (.cells #[.string b.name, .slice p0 b.owners.length q0, .int .i64 b.cells, .slice p1 b.places.length q1, .slice p2 b.links.length q2, .slice p3 b.towns.length q3, .slice p4 b.gauges.length q4, .slice p5 b.roads.length q5, .slice p6 b.shelters.length q6, .slice p7 b.room.length q7, .int .i64 b.err] 31))
    have hbw : Below w.heap.size w (w.alloc (.cells #[.string b.name, .slice p0 b.owners.length q0, .int .i64 b.cells, .slice p1 b.places.length q1, .slice p2 b.links.length q2, .slice p3 b.towns.length q3, .slice p4 b.gauges.length q4, .slice p5 b.roads.length q5, .slice p6 b.shelters.length q6, .slice p7 b.room.length q7, .int .i64 b.err] 31)) := (Below.refl w.heap.size w).alloc (Nat.le_refl _) (.cells #[.string b.name, .slice p0 b.owners.length q0, .int .i64 b.cells, .slice p1 b.places.length q1, .slice p2 b.links.length q2, .slice p3 b.towns.length q3, .slice p4 b.gauges.length q4, .slice p5 b.roads.length q5, .slice p6 b.shelters.length q6, .slice p7 b.room.length q7, .int .i64 b.err] 31)
    have HB0 := Lib.hid hbw
    generalize w.alloc (.cells #[.string b.name, .slice p0 b.owners.length q0, .int .i64 b.cells, .slice p1 b.places.length q1, .slice p2 b.links.length q2, .slice p3 b.towns.length q3, .slice p4 b.gauges.length q4, .slice p5 b.roads.length q5, .slice p6 b.shelters.length q6, .slice p7 b.room.length q7, .int .i64 b.err] 31) = w0 at *
    go_wp2_with fail
    go_ret
    exact ⟨_, (fun _ => trivial), rfl, HB0.out⟩
  · have t1 : (dst == -1) = false := beq_eq_false_iff_ne.2 h1
    obtain ⟨k, rfl⟩ : ∃ k : Nat, dst = k := ⟨dst.toNat, by omega⟩
    have hk : k < b.places.length := by omega
    clear hd h1
    go_enter Tryz.func67, Tryz.ntmps67
    go_upto_region 1 with fail
    have HR0 := Lib.hid (heap_alloc_new w (.cells #[.string b.name, .slice p0 b.owners.length q0, .int .i64 b.cells, .slice p1 b.places.length q1, .slice p2 b.links.length q2, .slice p3 b.towns.length q3, .slice p4 b.gauges.length q4, .slice p5 b.roads.length q5, .slice p6 b.shelters.length q6, .slice p7 b.room.length q7, .int .i64 b.err] 31))
    have hbw : Below w.heap.size w (w.alloc (.cells #[.string b.name, .slice p0 b.owners.length q0, .int .i64 b.cells, .slice p1 b.places.length q1, .slice p2 b.links.length q2, .slice p3 b.towns.length q3, .slice p4 b.gauges.length q4, .slice p5 b.roads.length q5, .slice p6 b.shelters.length q6, .slice p7 b.room.length q7, .int .i64 b.err] 31)) := (Below.refl w.heap.size w).alloc (Nat.le_refl _) (.cells #[.string b.name, .slice p0 b.owners.length q0, .int .i64 b.cells, .slice p1 b.places.length q1, .slice p2 b.links.length q2, .slice p3 b.towns.length q3, .slice p4 b.gauges.length q4, .slice p5 b.roads.length q5, .slice p6 b.shelters.length q6, .slice p7 b.room.length q7, .int .i64 b.err] 31)
    have HB0 := Lib.hid hbw
    obtain ⟨x, hx⟩ : ∃ x, b.places[k]? = some x := ⟨_, List.getElem?_eq_getElem hk⟩
    obtain ⟨g, o, cs, ha, hbl, _, hrg, hcs⟩ := (HP.out.below stays_Place hbw).at hx
    subst ha
    obtain ⟨v0, v1, v2, rfl, -⟩ := hcs
    generalize w.alloc (.cells #[.string b.name, .slice p0 b.owners.length q0, .int .i64 b.cells, .slice (some ⟨g, o, none⟩) b.places.length q1, .slice p2 b.links.length q2, .slice p3 b.towns.length q3, .slice p4 b.gauges.length q4, .slice p5 b.roads.length q5, .slice p6 b.shelters.length q6, .slice p7 b.room.length q7, .int .i64 b.err] 31) = w0 at *
    have c2 : w0.cell? ⟨g, o + k * 12 + 2, none⟩ = some (.int .i64 x.office) := hrg 2 _ rfl
    have b3 := rowNG HR0.out 3 (.slice (some ⟨g, o, none⟩) b.places.length q1) rfl
    have c2' := c2
    clear hrg hx hbw c2'
    cases t2 : (x.office == office)
    · go_wp2_with fail
      go_ret
      exact ⟨_, (fun _ => trivial), rfl, HB0.out⟩
    · go_wp2_with fail
      go_ret
      exact ⟨_, (fun _ => trivial), rfl, HB0.out⟩
end Go.Proofs.YtepidpegoihllaaGreatDoor
/- basin.rightOffices. -/
namespace Go.Proofs.YtepidpegoihllaaGreatDoor
open Go.RowKit
set_option maxRecDepth 100000 in
set_option maxHeartbeats 8000000 in
theorem offices_any (b : BasinV) (p0 p1 p2 p3 p4 p5 p6 p7 : Option Addr) (q0 q1 q2 q3 q4 q5 q6 q7 : Nat) (w : World) (hS : BasinS b p0 p1 p2 p3 p4 p5 p6 p7 q0 q1 q2 q3 q4 q5 q6 q7 w) (hN : BasinLen b) (hpr : ∀ y ∈ b.places, PlaceR b y) (hlr : ∀ y ∈ b.links, LinkR b y) : Calls Tryz.prog 25 #[.agg #[.string b.name, .slice p0 b.owners.length q0, .int .i64 b.cells, .slice p1 b.places.length q1, .slice p2 b.links.length q2, .slice p3 b.towns.length q3, .slice p4 b.gauges.length q4, .slice p5 b.roads.length q5, .slice p6 b.shelters.length q6, .slice p7 b.room.length q7, .int .i64 b.err]] w (RetT (True) w) := by
  have HS := Lib.hid hS
  obtain ⟨n0, n0', n1, n1', n2, n3, n4, n5, n6, n7⟩ := hN
  clear hS
  go_enter Tryz.func25, Tryz.ntmps25
  go_upto_region 1 with fail
  have HR0 := Lib.hid (heap_alloc_new w (.cells #[.string b.name, .slice p0 b.owners.length q0, .int .i64 b.cells, .slice p1 b.places.length q1, .slice p2 b.links.length q2, .slice p3 b.towns.length q3, .slice p4 b.gauges.length q4, .slice p5 b.roads.length q5, .slice p6 b.shelters.length q6, .slice p7 b.room.length q7, .int .i64 b.err] 31))
  have HB0 := Lib.hid ((Below.refl w.heap.size w).alloc (Nat.le_refl _) (.cells #[.string b.name, .slice p0 b.owners.length q0, .int .i64 b.cells, .slice p1 b.places.length q1, .slice p2 b.links.length q2, .slice p3 b.towns.length q3, .slice p4 b.gauges.length q4, .slice p5 b.roads.length q5, .slice p6 b.shelters.length q6, .slice p7 b.room.length q7, .int .i64 b.err] 31))
  generalize w.alloc (.cells #[.string b.name, .slice p0 b.owners.length q0, .int .i64 b.cells, .slice p1 b.places.length q1, .slice p2 b.links.length q2, .slice p3 b.towns.length q3, .slice p4 b.gauges.length q4, .slice p5 b.roads.length q5, .slice p6 b.shelters.length q6, .slice p7 b.room.length q7, .int .i64 b.err] 31) = w0 at *
  have HPR := Lib.hid hpr
  have HLR := Lib.hid hlr
  clear hpr hlr
  have b3 := rowNG HR0.out 3 (.slice p1 b.places.length q1) rfl
  go_wp2_with fail
  clear b3
  go_loopw [11] (fun iv wr => ∃ k : Nat, k ≤ b.places.length ∧ iv = .int .i64 k ∧ wr.heap[w.heap.size]? = some (.cells #[.string b.name, .slice p0 b.owners.length q0, .int .i64 b.cells, .slice p1 b.places.length q1, .slice p2 b.links.length q2, .slice p3 b.towns.length q3, .slice p4 b.gauges.length q4, .slice p5 b.roads.length q5, .slice p6 b.shelters.length q6, .slice p7 b.room.length q7, .int .i64 b.err] 31 (0, 0)) ∧ Below w.heap.size w wr) (fun iv _ => b.places.length - (Go.RowKit.intOf iv).toNat)
  case atStart => exact ⟨0, Nat.zero_le _, rfl, HR0.out, HB0.out⟩
  case round =>
    obtain ⟨k, hk, rfl, hrow, hb⟩ := hrel
    have HRr := Lib.hid hrow
    have HBr := Lib.hid hb
    clear hrow hb
    by_cases hlt : k < b.places.length
    · obtain ⟨x, hx⟩ : ∃ x, b.places[k]? = some x := ⟨_, List.getElem?_eq_getElem hlt⟩
      obtain ⟨g, o, cs, ha, hbl, -, hrg, hcs⟩ := (HS.out.below HBr.out).l1.at hx
      subst ha
      obtain ⟨v0, v1, v2, rfl, -, -, -, -, -, -, -, -, -, hv0, hv1, hv2⟩ := hcs
      obtain ⟨a0, n0, rfl, -, -⟩ := hv0.slice
      obtain ⟨a1, n1, rfl, -, -⟩ := hv1.slice
      obtain ⟨a2, n2, rfl, -, -⟩ := hv2.slice
      have hst : Below wr.heap.size wr (wr.alloc (.cells #[.string x.name, .int .i64 x.kind, .int .i64 x.office, .int .i64 x.cap, .slice a0 x.level.length n0, .slice a1 x.start.length n1, .int .i64 x.num, .int .i64 x.den, .int .i64 x.down, .int .i64 x.delay, .int .i64 x.floor, .slice a2 x.rain.length n2] 68)) := (Below.refl _ _).alloc (Nat.le_refl _) (.cells #[.string x.name, .int .i64 x.kind, .int .i64 x.office, .int .i64 x.cap, .slice a0 x.level.length n0, .slice a1 x.start.length n1, .int .i64 x.num, .int .i64 x.den, .int .i64 x.down, .int .i64 x.delay, .int .i64 x.floor, .slice a2 x.rain.length n2] 68)
      have HR3 := Lib.hid (blk_below HRr.out hst (blk_lt HRr.out))
      have HB3 := Lib.hid (HBr.out.alloc HBr.out.size (.cells #[.string x.name, .int .i64 x.kind, .int .i64 x.office, .int .i64 x.cap, .slice a0 x.level.length n0, .slice a1 x.start.length n1, .int .i64 x.num, .int .i64 x.den, .int .i64 x.down, .int .i64 x.delay, .int .i64 x.floor, .slice a2 x.rain.length n2] 68))
      have HX3 := Lib.hid (heap_alloc_new wr (.cells #[.string x.name, .int .i64 x.kind, .int .i64 x.office, .int .i64 x.cap, .slice a0 x.level.length n0, .slice a1 x.start.length n1, .int .i64 x.num, .int .i64 x.den, .int .i64 x.down, .int .i64 x.delay, .int .i64 x.floor, .slice a2 x.rain.length n2] 68))
      have HRG := Lib.hid hrg
      have HX := Lib.hid hx
      clear hrg hx hv0 hv1 hv2 hst
      go_upto_region 4 with (first | (refine wpList_load_rangeG (by rfl) 68 _ rfl _ _ rfl _ _ HRG.out undPl rfl infoPl ?_) | (refine wpList_store_row rfl 68 _ _ rfl wr.heap.size #[.string x.name, .int .i64 x.kind, .int .i64 x.office, .int .i64 x.cap, .slice a0 x.level.length n0, .slice a1 x.start.length n1, .int .i64 x.num, .int .i64 x.den, .int .i64 x.down, .int .i64 x.delay, .int .i64 x.floor, .slice a2 x.rain.length n2] rfl rfl 68 #[.string ⟨#[]⟩, .int .i64 0, .int .i64 0, .int .i64 0, .slice none 0 0, .slice none 0 0, .int .i64 0, .int .i64 0, .int .i64 0, .int .i64 0, .int .i64 0, .slice none 0 0] (heap_alloc_new wr (.cells #[.string ⟨#[]⟩, .int .i64 0, .int .i64 0, .int .i64 0, .slice none 0 0, .slice none 0 0, .int .i64 0, .int .i64 0, .int .i64 0, .int .i64 0, .int .i64 0, .slice none 0 0] 68)) infoPl rfl (by simp [Value.oneCell']) ?_))
      rw [World.setRow_alloc_new]
      generalize wr.alloc (.cells #[.string x.name, .int .i64 x.kind, .int .i64 x.office, .int .i64 x.cap, .slice a0 x.level.length n0, .slice a1 x.start.length n1, .int .i64 x.num, .int .i64 x.den, .int .i64 x.down, .int .i64 x.delay, .int .i64 x.floor, .slice a2 x.rain.length n2] 68) = w3 at *
      generalize wr.heap.size = bx at *
      obtain ⟨-, ⟨hyo1, hyo2⟩, -, -, -, -, -, -, hdn, -⟩ := HPR.out x (List.mem_of_getElem? HX.out)
      have d2 := rowNG HX3.out 2 (.int .i64 x.office) rfl
      have d8 := rowNG HX3.out 8 (.int .i64 x.down) rfl
      have HD := Lib.hid hdn
      clear hdn
      go_wp2_with (refine wpList_load_rowWG (by first | (go_simp; done) | rfl) 31 _ rfl _ rfl 31 _ _ _ HR3.out undBa rfl infoBa ?_)
      refine (next_any b _ _ _ _ _ _ _ _ _ _ _ _ _ _ _ _ x.office x.down _ (HS.out.below HB3.out).l1 HD.out (by omega)).mono ?_
      rintro e w4 ⟨bf, -, rfl, hb⟩
      have HR4 := Lib.hid (blk_below HR3.out hb (blk_lt HR3.out))
      have HX4 := Lib.hid (blk_below HX3.out hb (blk_lt HX3.out))
      have HB4 := Lib.hid (HB3.out.trans (hb.mono HB3.out.size))
      clear hb HR3 HX3 HB3 d2 d8
      cases bf
      · go_wp2_with fail
        go_ret
        exact retT_no HB4.out
      · go_wp2_with fail
        go_roundw
        case rel => exact ⟨k + 1, by omega, by go_num, HR4.out, HB4.out⟩
        case measure => simp [Go.RowKit.intOf]; omega
    · have b4 := rowNG HRr.out 4 (.slice p2 b.links.length q2) rfl
      go_wp2_with fail
      clear b4
      go_loopw [26] (fun iv wr => ∃ k : Nat, k ≤ b.links.length ∧ iv = .int .i64 k ∧ wr.heap[w.heap.size]? = some (.cells #[.string b.name, .slice p0 b.owners.length q0, .int .i64 b.cells, .slice p1 b.places.length q1, .slice p2 b.links.length q2, .slice p3 b.towns.length q3, .slice p4 b.gauges.length q4, .slice p5 b.roads.length q5, .slice p6 b.shelters.length q6, .slice p7 b.room.length q7, .int .i64 b.err] 31 (0, 0)) ∧ Below w.heap.size w wr) (fun iv _ => b.links.length - (Go.RowKit.intOf iv).toNat)
      case atStart => exact ⟨0, Nat.zero_le _, rfl, HRr.out, HBr.out⟩
      case round =>
        obtain ⟨k, hk, rfl, hrow, hb⟩ := hrel
        have HRr := Lib.hid hrow
        have HBr := Lib.hid hb
        clear hrow hb
        by_cases hlt : k < b.links.length
        · obtain ⟨x, hx⟩ : ∃ x, b.links[k]? = some x := ⟨_, List.getElem?_eq_getElem hlt⟩
          obtain ⟨g, o, cs, ha, hbl, -, hrg, hcs⟩ := (HS.out.below HBr.out).l2.at hx
          subst ha
          obtain ⟨v0, v1, v2, rfl, -, -, -, -, -, -, -, -, -, -, -, -, -, -, -, hv0, hv1, hv2⟩ := hcs
          obtain ⟨a0, n0, rfl, -, -⟩ := hv0.slice
          obtain ⟨a1, n1, rfl, -, -⟩ := hv1.slice
          obtain ⟨a2, n2, rfl, -, -⟩ := hv2.slice
          have hst : Below wr.heap.size wr (wr.alloc (.cells #[.string x.name, .int .i64 x.kind, .int .i64 x.src, .int .i64 x.dst, .slice a0 x.rate.length n0, .slice a1 x.band.lo.length n1, .slice a2 x.band.hi.length n2, .int .i64 x.positions, .int .i64 x.speed, .int .i64 x.leak, .int .i64 x.crest, .int .i64 x.num, .int .i64 x.den, .int .i64 x.prime, .int .i64 x.brk, .int .i64 x.backNum, .int .i64 x.backDen, .int .i64 x.delay] 72)) := (Below.refl _ _).alloc (Nat.le_refl _) (.cells #[.string x.name, .int .i64 x.kind, .int .i64 x.src, .int .i64 x.dst, .slice a0 x.rate.length n0, .slice a1 x.band.lo.length n1, .slice a2 x.band.hi.length n2, .int .i64 x.positions, .int .i64 x.speed, .int .i64 x.leak, .int .i64 x.crest, .int .i64 x.num, .int .i64 x.den, .int .i64 x.prime, .int .i64 x.brk, .int .i64 x.backNum, .int .i64 x.backDen, .int .i64 x.delay] 72)
          have HR3 := Lib.hid (blk_below HRr.out hst (blk_lt HRr.out))
          have HB3 := Lib.hid (HBr.out.alloc HBr.out.size (.cells #[.string x.name, .int .i64 x.kind, .int .i64 x.src, .int .i64 x.dst, .slice a0 x.rate.length n0, .slice a1 x.band.lo.length n1, .slice a2 x.band.hi.length n2, .int .i64 x.positions, .int .i64 x.speed, .int .i64 x.leak, .int .i64 x.crest, .int .i64 x.num, .int .i64 x.den, .int .i64 x.prime, .int .i64 x.brk, .int .i64 x.backNum, .int .i64 x.backDen, .int .i64 x.delay] 72))
          have HX3 := Lib.hid (heap_alloc_new wr (.cells #[.string x.name, .int .i64 x.kind, .int .i64 x.src, .int .i64 x.dst, .slice a0 x.rate.length n0, .slice a1 x.band.lo.length n1, .slice a2 x.band.hi.length n2, .int .i64 x.positions, .int .i64 x.speed, .int .i64 x.leak, .int .i64 x.crest, .int .i64 x.num, .int .i64 x.den, .int .i64 x.prime, .int .i64 x.brk, .int .i64 x.backNum, .int .i64 x.backDen, .int .i64 x.delay] 72))
          have HRG := Lib.hid hrg
          have HX := Lib.hid hx
          clear hrg hx hv0 hv1 hv2 hst
          go_upto_region 10 with (first | (refine wpList_load_rangeG (by rfl) 72 _ rfl _ _ rfl _ _ HRG.out undLk rfl infoLk ?_) | (refine wpList_store_row rfl 72 _ _ rfl wr.heap.size #[.string x.name, .int .i64 x.kind, .int .i64 x.src, .int .i64 x.dst, .slice a0 x.rate.length n0, .slice a1 x.band.lo.length n1, .slice a2 x.band.hi.length n2, .int .i64 x.positions, .int .i64 x.speed, .int .i64 x.leak, .int .i64 x.crest, .int .i64 x.num, .int .i64 x.den, .int .i64 x.prime, .int .i64 x.brk, .int .i64 x.backNum, .int .i64 x.backDen, .int .i64 x.delay] rfl rfl 72 #[.string ⟨#[]⟩, .int .i64 0, .int .i64 0, .int .i64 0, .slice none 0 0, .slice none 0 0, .slice none 0 0, .int .i64 0, .int .i64 0, .int .i64 0, .int .i64 0, .int .i64 0, .int .i64 0, .int .i64 0, .int .i64 0, .int .i64 0, .int .i64 0, .int .i64 0] (heap_alloc_new wr (.cells #[.string ⟨#[]⟩, .int .i64 0, .int .i64 0, .int .i64 0, .slice none 0 0, .slice none 0 0, .slice none 0 0, .int .i64 0, .int .i64 0, .int .i64 0, .int .i64 0, .int .i64 0, .int .i64 0, .int .i64 0, .int .i64 0, .int .i64 0, .int .i64 0, .int .i64 0] 72)) infoLk rfl (by simp [Value.oneCell']) ?_))
          rw [World.setRow_alloc_new]
          generalize wr.alloc (.cells #[.string x.name, .int .i64 x.kind, .int .i64 x.src, .int .i64 x.dst, .slice a0 x.rate.length n0, .slice a1 x.band.lo.length n1, .slice a2 x.band.hi.length n2, .int .i64 x.positions, .int .i64 x.speed, .int .i64 x.leak, .int .i64 x.crest, .int .i64 x.num, .int .i64 x.den, .int .i64 x.prime, .int .i64 x.brk, .int .i64 x.backNum, .int .i64 x.backDen, .int .i64 x.delay] 72) = w3 at *
          generalize wr.heap.size = bx at *
          obtain ⟨hkind, hsrc, hdst, hfld, -⟩ := HLR.out x (List.mem_of_getElem? HX.out)
          obtain ⟨m, hm⟩ : ∃ m : Nat, x.src = m := ⟨x.src.toNat, by omega⟩
          obtain ⟨y, hy⟩ : ∃ y, b.places[m]? = some y := ⟨_, List.getElem?_eq_getElem (by omega)⟩
          obtain ⟨hyo1, hyo2⟩ := (HPR.out y (List.mem_of_getElem? hy)).2.1
          have d1 := rowNG HX3.out 1 (.int .i64 x.kind) rfl
          have d2 : w3.cell? ⟨bx, 2, none⟩ = some (.int .i64 (m : Int)) := hm ▸ rowNG HX3.out 2 (.int .i64 x.src) rfl
          have b3 := rowNG HR3.out 3 (.slice p1 b.places.length q1) rfl
          obtain ⟨gp, op, csp, hap, -, -, hrp, hcsp⟩ := (HS.out.below HB3.out).l1.at hy
          subst hap
          obtain ⟨v3, v4, v5, rfl, -⟩ := hcsp
          have c2 : w3.cell? ⟨gp, op + m * 12 + 2, none⟩ = some (.int .i64 y.office) := hrp 2 _ rfl
          have hmp : m < b.places.length := (List.getElem?_eq_some_iff.1 hy).1
          have HD := Lib.hid hdst
          have HF := Lib.hid hfld
          clear hrp hy hm hsrc hdst hfld hkind
          by_cases hk4 : x.kind = 4
          · have t4 : (x.kind == 4) = true := by rw [hk4]; rfl
            have hne := (HF.out.2.2.2.2 hk4).2.2.2
            obtain ⟨m2, hm2⟩ : ∃ m2 : Nat, x.dst = m2 := ⟨x.dst.toNat, by have := HD.out; omega⟩
            have hlt2 : m2 < b.places.length := by have := HD.out; omega
            obtain ⟨z, hz⟩ : ∃ z, b.places[m2]? = some z := ⟨_, List.getElem?_eq_getElem hlt2⟩
            have HZ := Lib.hid hz
            have d3 : w3.cell? ⟨bx, 3, none⟩ = some (.int .i64 (m2 : Int)) := hm2 ▸ rowNG HX3.out 3 (.int .i64 x.dst) rfl
            clear hz hk4 hne
            go_wp2_with (refine wpList_load_rowWG (by first | (go_simp; done) | rfl) 31 _ rfl _ rfl 31 _ _ _ HR3.out undBa rfl infoBa ?_)
            refine (next_any b _ _ _ _ _ _ _ _ _ _ _ _ _ _ _ _ y.office (m2 : Int) _ (HS.out.below HB3.out).l1 (Or.inr ⟨by omega, by omega⟩) (by omega)).mono ?_
            rintro e w4 ⟨bf, -, rfl, hb⟩
            have HR4 := Lib.hid (blk_below HR3.out hb (blk_lt HR3.out))
            have HX4 := Lib.hid (blk_below HX3.out hb (blk_lt HX3.out))
            have HB4 := Lib.hid (HB3.out.trans (hb.mono HB3.out.size))
            have c2 := (hb.cell (p := ⟨gp, op + m * 12 + 2, none⟩) (World.block_lt_of_cell? _ _ c2)).trans c2
            clear hb HR3 HX3 HB3 d1 d2 d3 b3
            cases bf
            · go_wp2_with fail
              go_ret
              exact retT_no HB4.out
            · have d1 := rowNG HX4.out 1 (.int .i64 x.kind) rfl
              have d3 : w4.cell? ⟨bx, 3, none⟩ = some (.int .i64 (m2 : Int)) := hm2 ▸ rowNG HX4.out 3 (.int .i64 x.dst) rfl
              have b3 := rowNG HR4.out 3 _ rfl
              obtain ⟨gq, oq, csq, haq, -, -, hrq, hcsq⟩ := (HS.out.below HB4.out).l1.at HZ.out
              cases haq
              obtain ⟨v6, v7, v8, rfl, -⟩ := hcsq
              have c3 : w4.cell? ⟨gp, op + m2 * 12 + 2, none⟩ = some (.int .i64 z.office) := hrq 2 _ rfl
              clear hrq
              cases t5 : (z.office != y.office)
              · go_wp2_with fail
                go_roundw
                case rel => exact ⟨k + 1, by omega, by go_num, HR4.out, HB4.out⟩
                case measure => simp [Go.RowKit.intOf]; omega
              · go_wp2_with fail
                go_ret
                exact retT_no HB4.out
          · have t4 : (x.kind == 4) = false := beq_eq_false_iff_ne.2 hk4
            have d3 := rowNG HX3.out 3 (.int .i64 x.dst) rfl
            clear hk4
            go_wp2_with (refine wpList_load_rowWG (by first | (go_simp; done) | rfl) 31 _ rfl _ rfl 31 _ _ _ HR3.out undBa rfl infoBa ?_)
            refine (next_any b _ _ _ _ _ _ _ _ _ _ _ _ _ _ _ _ y.office x.dst _ (HS.out.below HB3.out).l1 HD.out (by omega)).mono ?_
            rintro e w4 ⟨bf, -, rfl, hb⟩
            have HR4 := Lib.hid (blk_below HR3.out hb (blk_lt HR3.out))
            have HX4 := Lib.hid (blk_below HX3.out hb (blk_lt HX3.out))
            have HB4 := Lib.hid (HB3.out.trans (hb.mono HB3.out.size))
            have c2 := (hb.cell (p := ⟨gp, op + m * 12 + 2, none⟩) (World.block_lt_of_cell? _ _ c2)).trans c2
            clear hb HR3 HX3 HB3 d1 d2 d3 b3
            cases bf
            · go_wp2_with fail
              go_ret
              exact retT_no HB4.out
            · have d1 := rowNG HX4.out 1 (.int .i64 x.kind) rfl
              go_wp2_with fail
              go_roundw
              case rel => exact ⟨k + 1, by omega, by go_num, HR4.out, HB4.out⟩
              case measure => simp [Go.RowKit.intOf]; omega
        · go_wp2_with fail
          go_ret
          exact retT_yes trivial HBr.out
end Go.Proofs.YtepidpegoihllaaGreatDoor
