/- bournelaw19.GateOrders returns true. -/
import Derived.Test.YtkoobkcmmfdlhaaUGBase
namespace Go.Proofs.Ytkoobkcmmfdlhaa
open Go.RowKit
theorem orders_law {l : LinkV} {g : GateV} {fr tt mo : Int} (hl : LinkOk l) (hv : 0 ≤ g.pos ∧ g.pos ≤ l.positions) (h1 : 0 ≤ fr ∧ fr ≤ 1125899906842624) (h2 : 0 ≤ tt ∧ tt ≤ 1125899906842624) (h3 : 0 ≤ mo ∧ mo ≤ 1125899906842624) :
    ∃ a x y z : Int, askN l g fr tt = a ∧ askN l g (min (fr + mo) 1125899906842624) tt = x ∧ askN l g fr (min (tt + mo) 1125899906842624) = y ∧ askN l ⟨min (g.pos + 1) l.positions, g.target, g.stuck, true⟩ fr tt = z ∧
      0 ≤ a ∧ a ≤ 2251799813685248 ∧ a ≤ x ∧ x ≤ 2251799813685248 ∧ x - a ≤ min (fr + mo) 1125899906842624 - fr + 1 ∧ y ≤ a ∧ a ≤ z := by
  have b1 := asks_bd (p := g.pos) (o := g.opened) (c := l.rate) (a := fr) (b := tt) hl
  have b2 := asks_bd (p := g.pos) (o := g.opened) (c := l.rate) (a := min (fr + mo) 1125899906842624) (b := tt) hl
  have k1 := asks_le (p := g.pos) (p' := g.pos) (o := g.opened) (o' := g.opened) (c := l.rate) (c' := l.rate) (a := fr) (a' := min (fr + mo) 1125899906842624) (b := tt) (b' := tt) hl hv.1 (Int.le_refl _) hv.2 id (fun _ _ => Int.le_refl _) h1.1 (by omega) (by omega) h2.1 (Int.le_refl _) h2.2
  have k2 := asks_lip (p := g.pos) (o := g.opened) (a := fr) (a' := min (fr + mo) 1125899906842624) (b := tt) hl hv.1 hv.2 h1.1 (by omega) (by omega) h2.1 h2.2
  have k3 := asks_le (p := g.pos) (p' := g.pos) (o := g.opened) (o' := g.opened) (c := l.rate) (c' := l.rate) (a := fr) (a' := fr) (b := min (tt + mo) 1125899906842624) (b' := tt) hl hv.1 (Int.le_refl _) hv.2 id (fun _ _ => Int.le_refl _) h1.1 (Int.le_refl _) h1.2 h2.1 (by omega) (by omega)
  have k4 := asks_le (p := g.pos) (p' := min (g.pos + 1) l.positions) (o := g.opened) (o' := true) (c := l.rate) (c' := l.rate) (a := fr) (a' := fr) (b := tt) (b' := tt) hl hv.1 (by omega) (by omega) (fun _ => rfl) (fun _ _ => Int.le_refl _) h1.1 (Int.le_refl _) h1.2 h2.1 (Int.le_refl _) h2.2
  refine ⟨_, _, _, _, rfl, rfl, rfl, rfl, b1.1, b1.2, k1, b2.2, ?_, k3, k4⟩
  unfold askN
  omega
set_option maxRecDepth 100000 in
set_option maxHeartbeats 8000000 in
theorem gorders_core (b : BasinV) (p0 p1 p2 p3 p4 p5 p6 p7 : Option Addr) (q0 q1 q2 q3 q4 q5 q6 q7 : Nat) (i : Int) (g : GateV) (fr tt mo : Int) (w : World) (hS : BasinS b p0 p1 p2 p3 p4 p5 p6 p7 q0 q1 q2 q3 q4 q5 q6 q7 w) (hnm : b.name.size ≤ maxLen) :
    Calls Try.prog 4 #[.agg #[.string b.name, .slice p0 b.owners.length q0, .int .i64 b.cells, .slice p1 b.places.length q1, .slice p2 b.links.length q2, .slice p3 b.towns.length q3, .slice p4 b.gauges.length q4, .slice p5 b.roads.length q5, .slice p6 b.shelters.length q6, .slice p7 b.room.length q7, .int .i64 b.err], .int .i64 i, .agg #[.int .i64 g.pos, .int .i64 g.target, .bool g.stuck, .bool g.opened], .int .i64 fr, .int .i64 tt, .int .i64 mo] w fun e w' => e = .returned (.bool true) ∧ Below w.heap.size w w' := by
  obtain ⟨r0, r1, rb⟩ := two_rowsV (w := w) (A := .cells #[.string b.name, .slice p0 b.owners.length q0, .int .i64 b.cells, .slice p1 b.places.length q1, .slice p2 b.links.length q2, .slice p3 b.towns.length q3, .slice p4 b.gauges.length q4, .slice p5 b.roads.length q5, .slice p6 b.shelters.length q6, .slice p7 b.room.length q7, .int .i64 b.err] 45) (B := .cells #[.int .i64 g.pos, .int .i64 g.target, .bool g.stuck, .bool g.opened] 28)
  have HS := Lib.hid hS
  have HNM := Lib.hid hnm
  clear hS hnm
  go_enter Try.func4, Try.ntmps4
  go_upto_region 1 with fail
  generalize (w.alloc (.cells #[.string b.name, .slice p0 b.owners.length q0, .int .i64 b.cells, .slice p1 b.places.length q1, .slice p2 b.links.length q2, .slice p3 b.towns.length q3, .slice p4 b.gauges.length q4, .slice p5 b.roads.length q5, .slice p6 b.shelters.length q6, .slice p7 b.room.length q7, .int .i64 b.err] 45)).alloc (.cells #[.int .i64 g.pos, .int .i64 g.target, .bool g.stuck, .bool g.opened] 28) = w0 at *
  have Bh0 := Lib.hid r0
  have Gh0 := Lib.hid r1
  have HB0 := Lib.hid rb
  clear r0 r1 rb
  go_wp2_with fail
  refine (small_any _).mono ?_
  rintro e w1 ⟨rfl, hb⟩
  have HB1 := Lib.hid (HB0.out.trans (hb.mono HB0.out.size))
  have Bh1 := Lib.hid (blk_below Bh0.out hb (blk_lt Bh0.out))
  have Gh1 := Lib.hid (blk_below Gh0.out hb (blk_lt Gh0.out))
  clear HB0 Bh0 Gh0
  clear hb
  go_wp2_with (first | (refine wpList_load_rowW (by first | (go_simp; done) | rfl) 45 _ rfl _ rfl 45 _ _ _ Bh1.out undBa rfl infoBa ?_))
  refine (light_any b _ _ _ _ _ _ _ _ _ _ _ _ _ _ _ _ _ (HS.out.below HB1.out) HNM.out).mono ?_
  rintro e w2 ⟨b1, hq, rfl, hb⟩
  have HB2 := Lib.hid (HB1.out.trans (hb.mono HB1.out.size))
  have Bh2 := Lib.hid (blk_below Bh1.out hb (blk_lt Bh1.out))
  have Gh2 := Lib.hid (blk_below Gh1.out hb (blk_lt Gh1.out))
  clear HB1 Bh1 Gh1
  clear hb
  have HQ := Lib.hid hq
  clear hq
  cases b1
  · go_wp2_with fail
    go_ret
    exact ⟨rfl, HB2.out⟩
  have HRB := Lib.hid (HQ.out (by trivial))
  clear HQ
  by_cases t1 : i < 0
  · go_wp2_with fail
    go_ret
    exact ⟨rfl, HB2.out⟩
  have cB4 := rowN Bh2.out 4 (.slice p2 b.links.length q2) rfl
  by_cases t2 : (b.links.length : Int) ≤ i
  · go_wp2_with fail
    go_ret
    exact ⟨rfl, HB2.out⟩
  by_cases t3 : fr < 0
  · go_wp2_with fail
    go_ret
    exact ⟨rfl, HB2.out⟩
  by_cases t4 : 1125899906842624 < fr
  · go_wp2_with fail
    go_ret
    exact ⟨rfl, HB2.out⟩
  by_cases t5 : tt < 0
  · go_wp2_with fail
    go_ret
    exact ⟨rfl, HB2.out⟩
  by_cases t6 : 1125899906842624 < tt
  · go_wp2_with fail
    go_ret
    exact ⟨rfl, HB2.out⟩
  by_cases t7 : mo < 0
  · go_wp2_with fail
    go_ret
    exact ⟨rfl, HB2.out⟩
  by_cases t8 : 1125899906842624 < mo
  · go_wp2_with fail
    go_ret
    exact ⟨rfl, HB2.out⟩
  clear cB4
  obtain ⟨n, rfl⟩ : ∃ n : Nat, i = (n : Int) := ⟨i.toNat, by omega⟩
  have hlt : n < b.links.length := by omega
  clear t1 t2
  obtain ⟨l, hx⟩ : ∃ l, b.links[n]? = some l := ⟨_, List.getElem?_eq_getElem hlt⟩
  have HLK := Lib.hid (linkOk_of HRB.out (List.mem_of_getElem? hx))
  skip
  obtain ⟨ga, oa, cs, ha, hbl, -, hrg, hcs⟩ := HS.out.l2.at hx
  subst ha
  obtain ⟨v0, v1, v2, rfl, -, ik, -, -, -, isp, ilk, icr, -, -, -, -, -, -, -, hv0, hv1, hv2⟩ := hcs
  obtain ⟨a0, n0, rfl, -, -⟩ := hv0.slice
  obtain ⟨a1, n1, rfl, -, -⟩ := hv1.slice
  obtain ⟨a2, n2, rfl, -, -⟩ := hv2.slice
  have HX := Lib.hid hx
  have ISP := Lib.hid (I64.of isp)
  have ILK := Lib.hid (I64.of ilk)
  have ICR := Lib.hid (I64.of icr)
  have hst : Below w2.heap.size w2 (w2.alloc (.cells #[.string l.name, .int .i64 l.kind, .int .i64 l.src, .int .i64 l.dst, .slice a0 l.rate.length n0, .slice a1 l.band.lo.length n1, .slice a2 l.band.hi.length n2, .int .i64 l.positions, .int .i64 l.speed, .int .i64 l.leak, .int .i64 l.crest, .int .i64 l.num, .int .i64 l.den, .int .i64 l.prime, .int .i64 l.brk, .int .i64 l.backNum, .int .i64 l.backDen, .int .i64 l.delay] 26)) := (Below.refl _ _).alloc (Nat.le_refl _) (.cells #[.string l.name, .int .i64 l.kind, .int .i64 l.src, .int .i64 l.dst, .slice a0 l.rate.length n0, .slice a1 l.band.lo.length n1, .slice a2 l.band.hi.length n2, .int .i64 l.positions, .int .i64 l.speed, .int .i64 l.leak, .int .i64 l.crest, .int .i64 l.num, .int .i64 l.den, .int .i64 l.prime, .int .i64 l.brk, .int .i64 l.backNum, .int .i64 l.backDen, .int .i64 l.delay] 26)
  have Gh3 := Lib.hid (blk_below Gh2.out hst (blk_lt Gh2.out))
  have HB3 := Lib.hid (HB2.out.alloc HB2.out.size (.cells #[.string l.name, .int .i64 l.kind, .int .i64 l.src, .int .i64 l.dst, .slice a0 l.rate.length n0, .slice a1 l.band.lo.length n1, .slice a2 l.band.hi.length n2, .int .i64 l.positions, .int .i64 l.speed, .int .i64 l.leak, .int .i64 l.crest, .int .i64 l.num, .int .i64 l.den, .int .i64 l.prime, .int .i64 l.brk, .int .i64 l.backNum, .int .i64 l.backDen, .int .i64 l.delay] 26))
  have Lh3 := Lib.hid (heap_alloc_new w2 (.cells #[.string l.name, .int .i64 l.kind, .int .i64 l.src, .int .i64 l.dst, .slice a0 l.rate.length n0, .slice a1 l.band.lo.length n1, .slice a2 l.band.hi.length n2, .int .i64 l.positions, .int .i64 l.speed, .int .i64 l.leak, .int .i64 l.crest, .int .i64 l.num, .int .i64 l.den, .int .i64 l.prime, .int .i64 l.brk, .int .i64 l.backNum, .int .i64 l.backDen, .int .i64 l.delay] 26))
  have HRG := Lib.hid (rangeAt_below hrg HB2.out hbl)
  have HW0 := Lib.hid hv0
  have HW1 := Lib.hid hv1
  have HW2 := Lib.hid hv2
  clear hrg hx hv0 hv1 hv2 hst ik isp ilk icr
  have cB4 := rowN Bh2.out 4 (.slice (some ⟨ga, oa, none⟩) b.links.length q2) rfl
  go_upto_region 5 with (first | (refine wpList_load_range (by rfl) 26 _ rfl _ _ rfl _ _ HRG.out undLk rfl infoLk ?_) | (refine wpList_store_row rfl 26 _ _ rfl w2.heap.size #[.string l.name, .int .i64 l.kind, .int .i64 l.src, .int .i64 l.dst, .slice a0 l.rate.length n0, .slice a1 l.band.lo.length n1, .slice a2 l.band.hi.length n2, .int .i64 l.positions, .int .i64 l.speed, .int .i64 l.leak, .int .i64 l.crest, .int .i64 l.num, .int .i64 l.den, .int .i64 l.prime, .int .i64 l.brk, .int .i64 l.backNum, .int .i64 l.backDen, .int .i64 l.delay] rfl rfl 26 #[.string ⟨#[]⟩, .int .i64 0, .int .i64 0, .int .i64 0, .slice none 0 0, .slice none 0 0, .slice none 0 0, .int .i64 0, .int .i64 0, .int .i64 0, .int .i64 0, .int .i64 0, .int .i64 0, .int .i64 0, .int .i64 0, .int .i64 0, .int .i64 0, .int .i64 0] (heap_alloc_new w2 (.cells #[.string ⟨#[]⟩, .int .i64 0, .int .i64 0, .int .i64 0, .slice none 0 0, .slice none 0 0, .slice none 0 0, .int .i64 0, .int .i64 0, .int .i64 0, .int .i64 0, .int .i64 0, .int .i64 0, .int .i64 0, .int .i64 0, .int .i64 0, .int .i64 0, .int .i64 0] 26)) infoLk rfl (by simp [Value.oneCell']) ?_))
  rw [World.setRow_alloc_new]
  clear cB4 HRG HB2 Bh2 Gh2
  generalize w2.alloc (.cells #[.string l.name, .int .i64 l.kind, .int .i64 l.src, .int .i64 l.dst, .slice a0 l.rate.length n0, .slice a1 l.band.lo.length n1, .slice a2 l.band.hi.length n2, .int .i64 l.positions, .int .i64 l.speed, .int .i64 l.leak, .int .i64 l.crest, .int .i64 l.num, .int .i64 l.den, .int .i64 l.prime, .int .i64 l.brk, .int .i64 l.backNum, .int .i64 l.backDen, .int .i64 l.delay] 26) = w3 at *
  generalize w2.heap.size = bL at *
  go_wp2_with (first | (refine wpList_load_rowW (by first | (go_simp; done) | rfl) 26 _ rfl _ rfl 26 _ _ _ Lh3.out undLk rfl infoLk ?_) | (refine wpList_load_rowW (by first | (go_simp; done) | rfl) 28 _ rfl _ rfl 28 _ _ _ Gh3.out undGt rfl infoGt ?_))
  refine (valid_any l (.slice a0 l.rate.length n0) (.slice a1 l.band.lo.length n1) (.slice a2 l.band.hi.length n2) g _).mono ?_
  rintro e w4 ⟨rfl, hb⟩
  have HB4 := Lib.hid (HB3.out.trans (hb.mono HB3.out.size))
  have Lh4 := Lib.hid (blk_below Lh3.out hb (blk_lt Lh3.out))
  have Gh4 := Lib.hid (blk_below Gh3.out hb (blk_lt Gh3.out))
  clear HB3 Lh3 Gh3
  clear hb
  cases hV : decide (ValidG l g)
  · go_wp2_with fail
    go_ret
    exact ⟨rfl, HB4.out⟩
  have HV := Lib.hid (of_decide_eq_true hV)
  clear hV
  obtain ⟨a, x, y, z, e1, e2, e3, e4, u1, u2, u3, u4, u5, u6, u7⟩ := orders_law (l := l) (g := g) (fr := fr) (tt := tt) (mo := mo) HLK.out ⟨HV.out.1, HV.out.2.1⟩ ⟨by omega, by omega⟩ ⟨by omega, by omega⟩ ⟨by omega, by omega⟩
  have LB := Lib.hid (linkB_of HLK.out ILK.out ICR.out)
  have FR : Hid (I64 fr) := Lib.hid ⟨by omega, by omega⟩
  have FM : Hid (I64 (min (fr + mo) 1125899906842624)) := Lib.hid ⟨by omega, by omega⟩
  have C1 : Hid (∀ W, Below w.heap.size w W → Calls Try.prog 15 #[.agg #[.string l.name, .int .i64 l.kind, .int .i64 l.src, .int .i64 l.dst, .slice a0 l.rate.length n0, .slice a1 l.band.lo.length n1, .slice a2 l.band.hi.length n2, .int .i64 l.positions, .int .i64 l.speed, .int .i64 l.leak, .int .i64 l.crest, .int .i64 l.num, .int .i64 l.den, .int .i64 l.prime, .int .i64 l.brk, .int .i64 l.backNum, .int .i64 l.backDen, .int .i64 l.delay], .agg #[.int .i64 g.pos, .int .i64 g.target, .bool g.stuck, .bool g.opened], .int .i64 (fr), .int .i64 (tt)] W (fun e W' => e = .returned (.int .i64 a) ∧ Below W.heap.size W W')) := Lib.hid fun W hb => by have h := ask_any l (.slice a0 l.rate.length n0) (.slice a1 l.band.lo.length n1) (.slice a2 l.band.hi.length n2) g (fr) (tt) W LB.out FR.out (HW0.out.below stays_Point hb); rw [e1] at h; exact h
  have C2 : Hid (∀ W, Below w.heap.size w W → Calls Try.prog 15 #[.agg #[.string l.name, .int .i64 l.kind, .int .i64 l.src, .int .i64 l.dst, .slice a0 l.rate.length n0, .slice a1 l.band.lo.length n1, .slice a2 l.band.hi.length n2, .int .i64 l.positions, .int .i64 l.speed, .int .i64 l.leak, .int .i64 l.crest, .int .i64 l.num, .int .i64 l.den, .int .i64 l.prime, .int .i64 l.brk, .int .i64 l.backNum, .int .i64 l.backDen, .int .i64 l.delay], .agg #[.int .i64 g.pos, .int .i64 g.target, .bool g.stuck, .bool g.opened], .int .i64 (min (fr + mo) 1125899906842624), .int .i64 (tt)] W (fun e W' => e = .returned (.int .i64 x) ∧ Below W.heap.size W W')) := Lib.hid fun W hb => by have h := ask_any l (.slice a0 l.rate.length n0) (.slice a1 l.band.lo.length n1) (.slice a2 l.band.hi.length n2) g (min (fr + mo) 1125899906842624) (tt) W LB.out FM.out (HW0.out.below stays_Point hb); rw [e2] at h; exact h
  have C3 : Hid (∀ W, Below w.heap.size w W → Calls Try.prog 15 #[.agg #[.string l.name, .int .i64 l.kind, .int .i64 l.src, .int .i64 l.dst, .slice a0 l.rate.length n0, .slice a1 l.band.lo.length n1, .slice a2 l.band.hi.length n2, .int .i64 l.positions, .int .i64 l.speed, .int .i64 l.leak, .int .i64 l.crest, .int .i64 l.num, .int .i64 l.den, .int .i64 l.prime, .int .i64 l.brk, .int .i64 l.backNum, .int .i64 l.backDen, .int .i64 l.delay], .agg #[.int .i64 g.pos, .int .i64 g.target, .bool g.stuck, .bool g.opened], .int .i64 (fr), .int .i64 (min (tt + mo) 1125899906842624)] W (fun e W' => e = .returned (.int .i64 y) ∧ Below W.heap.size W W')) := Lib.hid fun W hb => by have h := ask_any l (.slice a0 l.rate.length n0) (.slice a1 l.band.lo.length n1) (.slice a2 l.band.hi.length n2) g (fr) (min (tt + mo) 1125899906842624) W LB.out FR.out (HW0.out.below stays_Point hb); rw [e3] at h; exact h
  have C4 : Hid (∀ W, Below w.heap.size w W → Calls Try.prog 15 #[.agg #[.string l.name, .int .i64 l.kind, .int .i64 l.src, .int .i64 l.dst, .slice a0 l.rate.length n0, .slice a1 l.band.lo.length n1, .slice a2 l.band.hi.length n2, .int .i64 l.positions, .int .i64 l.speed, .int .i64 l.leak, .int .i64 l.crest, .int .i64 l.num, .int .i64 l.den, .int .i64 l.prime, .int .i64 l.brk, .int .i64 l.backNum, .int .i64 l.backDen, .int .i64 l.delay], .agg #[.int .i64 (min (g.pos + 1) l.positions), .int .i64 g.target, .bool g.stuck, .bool true], .int .i64 (fr), .int .i64 (tt)] W (fun e W' => e = .returned (.int .i64 z) ∧ Below W.heap.size W W')) := Lib.hid fun W hb => by have h := ask_any l (.slice a0 l.rate.length n0) (.slice a1 l.band.lo.length n1) (.slice a2 l.band.hi.length n2) ⟨min (g.pos + 1) l.positions, g.target, g.stuck, true⟩ (fr) (tt) W LB.out FR.out (HW0.out.below stays_Point hb); rw [e4] at h; exact h
  have hlp := link_pos HLK.out
  have g1 : 0 ≤ g.pos := HV.out.1
  have g2 : g.pos ≤ 64 := by have := HV.out.2.1; omega
  clear e1 e2 e3 e4 hlp
  go_wp2_with (first | (refine wpList_load_rowW (by first | (go_simp; done) | rfl) 26 _ rfl _ rfl 26 _ _ _ Lh4.out undLk rfl infoLk ?_) | (refine wpList_load_rowW (by first | (go_simp; done) | rfl) 28 _ rfl _ rfl 28 _ _ _ Gh4.out undGt rfl infoGt ?_))
  refine (C1.out _ HB4.out).mono ?_
  rintro e w5 ⟨rfl, hb⟩
  have HB5 := Lib.hid (HB4.out.trans (hb.mono HB4.out.size))
  have Lh5 := Lib.hid (blk_below Lh4.out hb (blk_lt Lh4.out))
  have Gh5 := Lib.hid (blk_below Gh4.out hb (blk_lt Gh4.out))
  clear HB4 Lh4 Gh4
  clear hb
  go_wp2_with (first | (refine wpList_load_rowW (by first | (go_simp; done) | rfl) 26 _ rfl _ rfl 26 _ _ _ Lh5.out undLk rfl infoLk ?_) | (refine wpList_load_rowW (by first | (go_simp; done) | rfl) 28 _ rfl _ rfl 28 _ _ _ Gh5.out undGt rfl infoGt ?_))
  refine (C2.out _ HB5.out).mono ?_
  rintro e w6 ⟨rfl, hb⟩
  have HB6 := Lib.hid (HB5.out.trans (hb.mono HB5.out.size))
  have Lh6 := Lib.hid (blk_below Lh5.out hb (blk_lt Lh5.out))
  have Gh6 := Lib.hid (blk_below Gh5.out hb (blk_lt Gh5.out))
  clear HB5 Lh5 Gh5
  clear hb
  go_wp2_with (first | (refine wpList_load_rowW (by first | (go_simp; done) | rfl) 26 _ rfl _ rfl 26 _ _ _ Lh6.out undLk rfl infoLk ?_) | (refine wpList_load_rowW (by first | (go_simp; done) | rfl) 28 _ rfl _ rfl 28 _ _ _ Gh6.out undGt rfl infoGt ?_))
  refine (C3.out _ HB6.out).mono ?_
  rintro e w7 ⟨rfl, hb⟩
  have HB7 := Lib.hid (HB6.out.trans (hb.mono HB6.out.size))
  have Lh7 := Lib.hid (blk_below Lh6.out hb (blk_lt Lh6.out))
  have Gh7 := Lib.hid (blk_below Gh6.out hb (blk_lt Gh6.out))
  clear HB6 Lh6 Gh6
  clear hb
  go_upto_region 11 with (first | (refine wpList_load_rowW (by first | (go_simp; done) | rfl) 28 _ rfl _ rfl 28 _ _ _ Gh7.out undGt rfl infoGt ?_))
  have HB8 := Lib.hid (HB7.out.alloc HB7.out.size (.cells #[.int .i64 g.pos, .int .i64 g.target, .bool g.stuck, .bool g.opened] 28 (0, 0)))
  have Oh8 := Lib.hid (heap_alloc_new w7 (.cells #[.int .i64 g.pos, .int .i64 g.target, .bool g.stuck, .bool g.opened] 28 (0, 0)))
  have Lh8 := Lib.hid (blk_below Lh7.out ((Below.refl w7.heap.size w7).alloc (Nat.le_refl _) (.cells #[.int .i64 g.pos, .int .i64 g.target, .bool g.stuck, .bool g.opened] 28 (0, 0))) (blk_lt Lh7.out))
  have Gh8 := Lib.hid (blk_below Gh7.out ((Below.refl w7.heap.size w7).alloc (Nat.le_refl _) (.cells #[.int .i64 g.pos, .int .i64 g.target, .bool g.stuck, .bool g.opened] 28 (0, 0))) (blk_lt Gh7.out))
  have ne_L_O : bL ≠ w7.heap.size := Nat.ne_of_lt (blk_lt Lh7.out)
  have ne_G_O : (w.heap.size + 1) ≠ w7.heap.size := Nat.ne_of_lt (blk_lt Gh7.out)
  have le_O : w.heap.size ≤ w7.heap.size := HB7.out.size
  clear HB7 Lh7 Gh7
  generalize w7.heap.size = bO at *
  generalize w7.alloc (.cells #[.int .i64 g.pos, .int .i64 g.target, .bool g.stuck, .bool g.opened] 28 (0, 0)) = w8 at *
  have cG0 := rowN Gh8.out 0 (.int .i64 g.pos) rfl
  have cL7 := rowN Lh8.out 7 (.int .i64 l.positions) rfl
  have z6 : w8.frozen? ⟨bO, 0, none⟩ = false := frozen_of_row _ _ _ _ _ Oh8.out
  have d6 := rowN Oh8.out 0 (.int .i64 g.pos) rfl
  go_upto_region 12 with fail
  have Oh9 : Hid ((w8.setCell ⟨bO, 0, none⟩ (.int .i64 (min (g.pos + 1) l.positions))).heap[bO]? = some (.cells #[.int .i64 (min (g.pos + 1) l.positions), .int .i64 g.target, .bool g.stuck, .bool g.opened] 28 (0, 0))) := Lib.hid ((heap_setCell_same _ _ _ _ _ _ Oh8.out).trans rfl)
  have Lh9 : Hid ((w8.setCell ⟨bO, 0, none⟩ (.int .i64 (min (g.pos + 1) l.positions))).heap[bL]? = some (.cells #[.string l.name, .int .i64 l.kind, .int .i64 l.src, .int .i64 l.dst, .slice a0 l.rate.length n0, .slice a1 l.band.lo.length n1, .slice a2 l.band.hi.length n2, .int .i64 l.positions, .int .i64 l.speed, .int .i64 l.leak, .int .i64 l.crest, .int .i64 l.num, .int .i64 l.den, .int .i64 l.prime, .int .i64 l.brk, .int .i64 l.backNum, .int .i64 l.backDen, .int .i64 l.delay] 26 (0, 0))) := Lib.hid ((heap_setCell_other _ _ _ _ ne_L_O).trans Lh8.out)
  have Gh9 : Hid ((w8.setCell ⟨bO, 0, none⟩ (.int .i64 (min (g.pos + 1) l.positions))).heap[(w.heap.size + 1)]? = some (.cells #[.int .i64 g.pos, .int .i64 g.target, .bool g.stuck, .bool g.opened] 28 (0, 0))) := Lib.hid ((heap_setCell_other _ _ _ _ ne_G_O).trans Gh8.out)
  have HB9 : Hid (Below w.heap.size w (w8.setCell ⟨bO, 0, none⟩ (.int .i64 (min (g.pos + 1) l.positions)))) := Lib.hid (HB8.out.setCell le_O _)
  clear z6 d6 HB8 Lh8 Gh8 Oh8
  generalize (w8.setCell ⟨bO, 0, none⟩ (.int .i64 (min (g.pos + 1) l.positions))) = w9 at *
  clear cG0 cL7
  have z6 : w9.frozen? ⟨bO, 3, none⟩ = false := frozen_of_row _ _ _ _ _ Oh9.out
  have d6 := rowN Oh9.out 3 (.bool g.opened) rfl
  go_upto_region 13 with fail
  have Oh10 : Hid ((w9.setCell ⟨bO, 3, none⟩ (.bool true)).heap[bO]? = some (.cells #[.int .i64 (min (g.pos + 1) l.positions), .int .i64 g.target, .bool g.stuck, .bool true] 28 (0, 0))) := Lib.hid ((heap_setCell_same _ _ _ _ _ _ Oh9.out).trans rfl)
  have Lh10 : Hid ((w9.setCell ⟨bO, 3, none⟩ (.bool true)).heap[bL]? = some (.cells #[.string l.name, .int .i64 l.kind, .int .i64 l.src, .int .i64 l.dst, .slice a0 l.rate.length n0, .slice a1 l.band.lo.length n1, .slice a2 l.band.hi.length n2, .int .i64 l.positions, .int .i64 l.speed, .int .i64 l.leak, .int .i64 l.crest, .int .i64 l.num, .int .i64 l.den, .int .i64 l.prime, .int .i64 l.brk, .int .i64 l.backNum, .int .i64 l.backDen, .int .i64 l.delay] 26 (0, 0))) := Lib.hid ((heap_setCell_other _ _ _ _ ne_L_O).trans Lh9.out)
  have Gh10 : Hid ((w9.setCell ⟨bO, 3, none⟩ (.bool true)).heap[(w.heap.size + 1)]? = some (.cells #[.int .i64 g.pos, .int .i64 g.target, .bool g.stuck, .bool g.opened] 28 (0, 0))) := Lib.hid ((heap_setCell_other _ _ _ _ ne_G_O).trans Gh9.out)
  have HB10 : Hid (Below w.heap.size w (w9.setCell ⟨bO, 3, none⟩ (.bool true))) := Lib.hid (HB9.out.setCell le_O _)
  clear z6 d6 HB9 Lh9 Gh9 Oh9
  generalize (w9.setCell ⟨bO, 3, none⟩ (.bool true)) = w10 at *
  go_wp2_with (first | (refine wpList_load_rowW (by first | (go_simp; done) | rfl) 26 _ rfl _ rfl 26 _ _ _ Lh10.out undLk rfl infoLk ?_) | (refine wpList_load_rowW (by first | (go_simp; done) | rfl) 28 _ rfl _ rfl 28 _ _ _ Oh10.out undGt rfl infoGt ?_))
  refine (C4.out _ HB10.out).mono ?_
  rintro e w11 ⟨rfl, hb⟩
  have HB11 := Lib.hid (HB10.out.trans (hb.mono HB10.out.size))
  have Lh11 := Lib.hid (blk_below Lh10.out hb (blk_lt Lh10.out))
  have Gh11 := Lib.hid (blk_below Gh10.out hb (blk_lt Gh10.out))
  have Oh11 := Lib.hid (blk_below Oh10.out hb (blk_lt Oh10.out))
  clear HB10 Lh10 Gh10 Oh10
  clear hb
  go_wp2_with fail
  go_ret
  exact ⟨rfl, HB11.out⟩
end Go.Proofs.Ytkoobkcmmfdlhaa
