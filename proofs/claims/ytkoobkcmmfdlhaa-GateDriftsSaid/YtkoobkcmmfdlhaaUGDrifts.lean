/- bournelaw19.GateDrifts returns true. -/
import Derived.Test.YtkoobkcmmfdlhaaULight
import Derived.Test.YtkoobkcmmfdlhaaUDriftLaw
import Derived.Test.YtkoobkcmmfdlhaaUSmall
namespace Go.Proofs.Ytkoobkcmmfdlhaa
open Go.RowKit
theorem undGt : Try.prog.underlying 28 = some (.struct (Try.prog.fieldsOf 28)) := by kernel_rfl
theorem infoGt : (Try.prog.info? 28).map (·.size) = some 4 := by kernel_rfl
theorem range2 {w : World} {b k : Nat} {x y : Value} (h1 : w.cell? ⟨b, k, none⟩ = some x) (h2 : w.cell? ⟨b, k + 1, none⟩ = some y) : w.rangeAt b k [x, y] := fun j v hv => by
  rcases j with _ | _ | j
  · cases hv; exact h1
  · cases hv; exact h2
  · exact absurd hv (by simp)
theorem exec_load_range {P : Program} {o : Oper} {ev : Operand → Value} {w : World} (ty : TypeId) (x : Operand) (ho : o.op = .load ty x)
    (b k : Nat) (hx : ev x = .pointer (some ⟨b, k, none⟩)) (cs : List Value) (d : TypeDesc) (h : w.rangeAt b k cs)
    (hu : P.underlying ty = some d) (hd : (match d with | .struct _ | .array _ _ => true | _ => false) = true) (hi : (P.info? ty).map (·.size) = some cs.length) :
    (execOp ev o).run P w = .ok (.value (.agg cs.toArray)) w := by
  unfold execOp
  simp only [ho, hx, Instr.loadAt, Instr.sureAddr, Sem.run_bind, Sem.run_pure, Result.andThen_ok, run_loadVar_range w b k ty cs d h hu hd hi]
theorem stepD {w cur w' : World} {k0 k1 k2 k3 k4 k5 : Nat} {A0 A1 A2 A3 A4 A5 : Obj} (h : cur.heap[k0]? = some A0 ∧ cur.heap[k1]? = some A1 ∧ cur.heap[k2]? = some A2 ∧ cur.heap[k3]? = some A3 ∧ cur.heap[k4]? = some A4 ∧ cur.heap[k5]? = some A5 ∧ Below w.heap.size w cur) (hb : Below cur.heap.size cur w') : w'.heap[k0]? = some A0 ∧ w'.heap[k1]? = some A1 ∧ w'.heap[k2]? = some A2 ∧ w'.heap[k3]? = some A3 ∧ w'.heap[k4]? = some A4 ∧ w'.heap[k5]? = some A5 ∧ Below w.heap.size w w' := by
  obtain ⟨a0, a1, a2, a3, a4, a5, d⟩ := h
  exact ⟨blk_below a0 hb (blk_lt a0), blk_below a1 hb (blk_lt a1), blk_below a2 hb (blk_lt a2), blk_below a3 hb (blk_lt a3), blk_below a4 hb (blk_lt a4), blk_below a5 hb (blk_lt a5), d.trans (hb.mono d.size)⟩
theorem stepDN {w cur : World} {k0 k1 k2 k3 k4 k5 : Nat} {A0 A1 A2 A3 A4 A5 : Obj} (h : cur.heap[k0]? = some A0 ∧ cur.heap[k1]? = some A1 ∧ cur.heap[k2]? = some A2 ∧ cur.heap[k3]? = some A3 ∧ cur.heap[k4]? = some A4 ∧ cur.heap[k5]? = some A5 ∧ Below w.heap.size w cur) (n : Nat) : (cur.drewN n).heap[k0]? = some A0 ∧ (cur.drewN n).heap[k1]? = some A1 ∧ (cur.drewN n).heap[k2]? = some A2 ∧ (cur.drewN n).heap[k3]? = some A3 ∧ (cur.drewN n).heap[k4]? = some A4 ∧ (cur.drewN n).heap[k5]? = some A5 ∧ Below w.heap.size w (cur.drewN n) := by
  obtain ⟨a0, a1, a2, a3, a4, a5, d⟩ := h
  exact ⟨a0, a1, a2, a3, a4, a5, below_drewN d⟩
theorem stepDA {w cur : World} {k0 k1 k2 k3 k4 k5 : Nat} {A0 A1 A2 A3 A4 A5 : Obj} {o : Obj} (h : cur.heap[k0]? = some A0 ∧ cur.heap[k1]? = some A1 ∧ cur.heap[k2]? = some A2 ∧ cur.heap[k3]? = some A3 ∧ cur.heap[k4]? = some A4 ∧ cur.heap[k5]? = some A5 ∧ Below w.heap.size w cur) : (cur.alloc o).heap[k0]? = some A0 ∧ (cur.alloc o).heap[k1]? = some A1 ∧ (cur.alloc o).heap[k2]? = some A2 ∧ (cur.alloc o).heap[k3]? = some A3 ∧ (cur.alloc o).heap[k4]? = some A4 ∧ (cur.alloc o).heap[k5]? = some A5 ∧ Below w.heap.size w (cur.alloc o) := stepD h ((Below.refl _ _).alloc (Nat.le_refl _) o)
theorem stepDS {w cur : World} {b j : Nat} {x : Value} {k0 k1 k2 k3 k4 k5 : Nat} {A0 A1 A2 A3 A4 A5 : Obj} (h : cur.heap[k0]? = some A0 ∧ cur.heap[k1]? = some A1 ∧ cur.heap[k2]? = some A2 ∧ cur.heap[k3]? = some A3 ∧ cur.heap[k4]? = some A4 ∧ cur.heap[k5]? = some A5 ∧ Below w.heap.size w cur) (hle : w.heap.size ≤ b) (hn0 : k0 ≠ b) (hn1 : k1 ≠ b) (hn2 : k2 ≠ b) (hn3 : k3 ≠ b) (hn4 : k4 ≠ b) (hn5 : k5 ≠ b) : (cur.setCell ⟨b, j, none⟩ x).heap[k0]? = some A0 ∧ (cur.setCell ⟨b, j, none⟩ x).heap[k1]? = some A1 ∧ (cur.setCell ⟨b, j, none⟩ x).heap[k2]? = some A2 ∧ (cur.setCell ⟨b, j, none⟩ x).heap[k3]? = some A3 ∧ (cur.setCell ⟨b, j, none⟩ x).heap[k4]? = some A4 ∧ (cur.setCell ⟨b, j, none⟩ x).heap[k5]? = some A5 ∧ Below w.heap.size w (cur.setCell ⟨b, j, none⟩ x) := by
  obtain ⟨a0, a1, a2, a3, a4, a5, d⟩ := h
  have e0 : (cur.setCell ⟨b, j, none⟩ x).heap[k0]? = cur.heap[k0]? := heap_setCell_other _ _ _ _ hn0
  have e1 : (cur.setCell ⟨b, j, none⟩ x).heap[k1]? = cur.heap[k1]? := heap_setCell_other _ _ _ _ hn1
  have e2 : (cur.setCell ⟨b, j, none⟩ x).heap[k2]? = cur.heap[k2]? := heap_setCell_other _ _ _ _ hn2
  have e3 : (cur.setCell ⟨b, j, none⟩ x).heap[k3]? = cur.heap[k3]? := heap_setCell_other _ _ _ _ hn3
  have e4 : (cur.setCell ⟨b, j, none⟩ x).heap[k4]? = cur.heap[k4]? := heap_setCell_other _ _ _ _ hn4
  have e5 : (cur.setCell ⟨b, j, none⟩ x).heap[k5]? = cur.heap[k5]? := heap_setCell_other _ _ _ _ hn5
  exact ⟨e0.trans a0, e1.trans a1, e2.trans a2, e3.trans a3, e4.trans a4, e5.trans a5, d.setCell hle _⟩
theorem stepDU {w cur : World} {k0 k1 k2 k3 k4 k5 : Nat} {A0 A1 A2 A3 A4 A5 : Obj} {n : Nat} (h : (cur.drewN n).heap[k0]? = some A0 ∧ (cur.drewN n).heap[k1]? = some A1 ∧ (cur.drewN n).heap[k2]? = some A2 ∧ (cur.drewN n).heap[k3]? = some A3 ∧ (cur.drewN n).heap[k4]? = some A4 ∧ (cur.drewN n).heap[k5]? = some A5 ∧ Below w.heap.size w (cur.drewN n)) : cur.heap[k0]? = some A0 ∧ cur.heap[k1]? = some A1 ∧ cur.heap[k2]? = some A2 ∧ cur.heap[k3]? = some A3 ∧ cur.heap[k4]? = some A4 ∧ cur.heap[k5]? = some A5 ∧ Below w.heap.size w cur := by
  obtain ⟨a0, a1, a2, a3, a4, a5, d⟩ := h
  exact ⟨a0, a1, a2, a3, a4, a5, ⟨d.os, d.tape, d.output, d.size, d.block⟩⟩
set_option maxRecDepth 100000 in
set_option maxHeartbeats 8000000 in
theorem gdrifts_core (b : BasinV) (p0 p1 p2 p3 p4 p5 p6 p7 : Option Addr) (q0 q1 q2 q3 q4 q5 q6 q7 : Nat) (i : Int) (g : GateV) (k : KnownV) (w : World) (hS : BasinS b p0 p1 p2 p3 p4 p5 p6 p7 q0 q1 q2 q3 q4 q5 q6 q7 w) (hnm : b.name.size ≤ maxLen) (hg1 : I64 g.pos) (hg2 : I64 g.target) (hk1 : I64 k.pos.lo) (hk2 : I64 k.pos.hi) (hk3 : I64 k.target) :
    Calls Try.prog 5 #[.agg #[.string b.name, .slice p0 b.owners.length q0, .int .i64 b.cells, .slice p1 b.places.length q1, .slice p2 b.links.length q2, .slice p3 b.towns.length q3, .slice p4 b.gauges.length q4, .slice p5 b.roads.length q5, .slice p6 b.shelters.length q6, .slice p7 b.room.length q7, .int .i64 b.err], .int .i64 i, .agg #[.int .i64 g.pos, .int .i64 g.target, .bool g.stuck, .bool g.opened], .agg #[.int .i64 k.pos.lo, .int .i64 k.pos.hi, .int .i64 k.target, .int .i64 k.opened.lo, .int .i64 k.opened.hi]] w fun e w' => e = .returned (.bool true) ∧ Below w.heap.size w w' := by
  obtain ⟨r0, r1, r2, rb⟩ := three_rowsV (w := w) (A := .cells #[.string b.name, .slice p0 b.owners.length q0, .int .i64 b.cells, .slice p1 b.places.length q1, .slice p2 b.links.length q2, .slice p3 b.towns.length q3, .slice p4 b.gauges.length q4, .slice p5 b.roads.length q5, .slice p6 b.shelters.length q6, .slice p7 b.room.length q7, .int .i64 b.err] 45) (B := .cells #[.int .i64 g.pos, .int .i64 g.target, .bool g.stuck, .bool g.opened] 28) (C := .cells #[.int .i64 k.pos.lo, .int .i64 k.pos.hi, .int .i64 k.target, .int .i64 k.opened.lo, .int .i64 k.opened.hi] 52)
  have HS := Lib.hid hS
  have HNM := Lib.hid hnm
  have HG1 := Lib.hid hg1
  have HG2 := Lib.hid hg2
  have HK1 := Lib.hid hk1
  have HK2 := Lib.hid hk2
  have HK3 := Lib.hid hk3
  clear hS hnm hg1 hg2 hk1 hk2 hk3
  go_enter Try.func5, Try.ntmps5
  go_upto_region 1 with fail
  generalize ((w.alloc (.cells #[.string b.name, .slice p0 b.owners.length q0, .int .i64 b.cells, .slice p1 b.places.length q1, .slice p2 b.links.length q2, .slice p3 b.towns.length q3, .slice p4 b.gauges.length q4, .slice p5 b.roads.length q5, .slice p6 b.shelters.length q6, .slice p7 b.room.length q7, .int .i64 b.err] 45)).alloc (.cells #[.int .i64 g.pos, .int .i64 g.target, .bool g.stuck, .bool g.opened] 28)).alloc (.cells #[.int .i64 k.pos.lo, .int .i64 k.pos.hi, .int .i64 k.target, .int .i64 k.opened.lo, .int .i64 k.opened.hi] 52) = w0 at *
  have Bh0 := Lib.hid r0
  have Gh0 := Lib.hid r1
  have Kh0 := Lib.hid r2
  have HB0 := Lib.hid rb
  clear r0 r1 r2 rb
  go_wp2_with fail
  refine (small_any _).mono ?_
  rintro e w1 ⟨rfl, hb⟩
  have HB1 := Lib.hid (HB0.out.trans (hb.mono HB0.out.size))
  have Bh1 := Lib.hid (blk_below Bh0.out hb (blk_lt Bh0.out))
  have Gh1 := Lib.hid (blk_below Gh0.out hb (blk_lt Gh0.out))
  have Kh1 := Lib.hid (blk_below Kh0.out hb (blk_lt Kh0.out))
  clear HB0 Bh0 Gh0 Kh0
  clear hb
  go_wp2_with (first | (refine wpList_load_rowW (by first | (go_simp; done) | rfl) 45 _ rfl _ rfl 45 _ _ _ Bh1.out undBa rfl infoBa ?_))
  refine (light_any b _ _ _ _ _ _ _ _ _ _ _ _ _ _ _ _ _ (HS.out.below HB1.out) HNM.out).mono ?_
  rintro e w2 ⟨b1, hq, rfl, hb⟩
  have HB2 := Lib.hid (HB1.out.trans (hb.mono HB1.out.size))
  have Bh2 := Lib.hid (blk_below Bh1.out hb (blk_lt Bh1.out))
  have Gh2 := Lib.hid (blk_below Gh1.out hb (blk_lt Gh1.out))
  have Kh2 := Lib.hid (blk_below Kh1.out hb (blk_lt Kh1.out))
  clear HB1 Bh1 Gh1 Kh1
  clear hb
  have HQ := Lib.hid hq
  clear hq
  cases b1
  · go_wp2_with fail
    go_ret
    exact ⟨rfl, HB2.out⟩
  have HRB := Lib.hid (HQ.out (by trivial))
  clear HQ
  by_cases t1 : i < 0
  · go_wp2_with fail
    go_ret
    exact ⟨rfl, HB2.out⟩
  have cB4 := rowN Bh2.out 4 (.slice p2 b.links.length q2) rfl
  by_cases t2 : (b.links.length : Int) ≤ i
  · go_wp2_with fail
    go_ret
    exact ⟨rfl, HB2.out⟩
  clear cB4
  obtain ⟨n, rfl⟩ : ∃ n : Nat, i = (n : Int) := ⟨i.toNat, by omega⟩
  have hlt : n < b.links.length := by omega
  clear t1 t2
  obtain ⟨l, hx⟩ : ∃ l, b.links[n]? = some l := ⟨_, List.getElem?_eq_getElem hlt⟩
  have HLK := Lib.hid (linkOk_of HRB.out (List.mem_of_getElem? hx))
  skip
  obtain ⟨ga, oa, cs, ha, hbl, -, hrg, hcs⟩ := (HS.out.below HB2.out).l2.at hx
  subst ha
  obtain ⟨v0, v1, v2, rfl, -, ik, -, -, -, isp, ilk, icr, -, -, -, -, -, -, -, hv0, hv1, hv2⟩ := hcs
  obtain ⟨a0, n0, rfl, -, -⟩ := hv0.slice
  obtain ⟨a1, n1, rfl, -, -⟩ := hv1.slice
  obtain ⟨a2, n2, rfl, -, -⟩ := hv2.slice
  have HX := Lib.hid hx
  have ISP := Lib.hid (I64.of isp)
  have ILK := Lib.hid (I64.of ilk)
  have ICR := Lib.hid (I64.of icr)
  have hst : Below w2.heap.size w2 (w2.alloc (.cells #[.string l.name, .int .i64 l.kind, .int .i64 l.src, .int .i64 l.dst, .slice a0 l.rate.length n0, .slice a1 l.band.lo.length n1, .slice a2 l.band.hi.length n2, .int .i64 l.positions, .int .i64 l.speed, .int .i64 l.leak, .int .i64 l.crest, .int .i64 l.num, .int .i64 l.den, .int .i64 l.prime, .int .i64 l.brk, .int .i64 l.backNum, .int .i64 l.backDen, .int .i64 l.delay] 26)) := (Below.refl _ _).alloc (Nat.le_refl _) (.cells #[.string l.name, .int .i64 l.kind, .int .i64 l.src, .int .i64 l.dst, .slice a0 l.rate.length n0, .slice a1 l.band.lo.length n1, .slice a2 l.band.hi.length n2, .int .i64 l.positions, .int .i64 l.speed, .int .i64 l.leak, .int .i64 l.crest, .int .i64 l.num, .int .i64 l.den, .int .i64 l.prime, .int .i64 l.brk, .int .i64 l.backNum, .int .i64 l.backDen, .int .i64 l.delay] 26)
  have Gh3 := Lib.hid (blk_below Gh2.out hst (blk_lt Gh2.out))
  have Kh3 := Lib.hid (blk_below Kh2.out hst (blk_lt Kh2.out))
  have HB3 := Lib.hid (HB2.out.alloc HB2.out.size (.cells #[.string l.name, .int .i64 l.kind, .int .i64 l.src, .int .i64 l.dst, .slice a0 l.rate.length n0, .slice a1 l.band.lo.length n1, .slice a2 l.band.hi.length n2, .int .i64 l.positions, .int .i64 l.speed, .int .i64 l.leak, .int .i64 l.crest, .int .i64 l.num, .int .i64 l.den, .int .i64 l.prime, .int .i64 l.brk, .int .i64 l.backNum, .int .i64 l.backDen, .int .i64 l.delay] 26))
  have Lh3 := Lib.hid (heap_alloc_new w2 (.cells #[.string l.name, .int .i64 l.kind, .int .i64 l.src, .int .i64 l.dst, .slice a0 l.rate.length n0, .slice a1 l.band.lo.length n1, .slice a2 l.band.hi.length n2, .int .i64 l.positions, .int .i64 l.speed, .int .i64 l.leak, .int .i64 l.crest, .int .i64 l.num, .int .i64 l.den, .int .i64 l.prime, .int .i64 l.brk, .int .i64 l.backNum, .int .i64 l.backDen, .int .i64 l.delay] 26))
  have HRG := Lib.hid hrg
  have HW0 := Lib.hid (hv0.below stays_Point hst)
  have HW1 := Lib.hid (hv1.below stays_Point hst)
  have HW2 := Lib.hid (hv2.below stays_Point hst)
  clear hrg hx hv0 hv1 hv2 hst ik isp ilk icr
  have cB4 := rowN Bh2.out 4 (.slice (some ⟨ga, oa, none⟩) b.links.length q2) rfl
  go_upto_region 5 with (first | (refine wpList_load_range (by rfl) 26 _ rfl _ _ rfl _ _ HRG.out undLk rfl infoLk ?_) | (refine wpList_store_row rfl 26 _ _ rfl w2.heap.size #[.string l.name, .int .i64 l.kind, .int .i64 l.src, .int .i64 l.dst, .slice a0 l.rate.length n0, .slice a1 l.band.lo.length n1, .slice a2 l.band.hi.length n2, .int .i64 l.positions, .int .i64 l.speed, .int .i64 l.leak, .int .i64 l.crest, .int .i64 l.num, .int .i64 l.den, .int .i64 l.prime, .int .i64 l.brk, .int .i64 l.backNum, .int .i64 l.backDen, .int .i64 l.delay] rfl rfl 26 #[.string ⟨#[]⟩, .int .i64 0, .int .i64 0, .int .i64 0, .slice none 0 0, .slice none 0 0, .slice none 0 0, .int .i64 0, .int .i64 0, .int .i64 0, .int .i64 0, .int .i64 0, .int .i64 0, .int .i64 0, .int .i64 0, .int .i64 0, .int .i64 0, .int .i64 0] (heap_alloc_new w2 (.cells #[.string ⟨#[]⟩, .int .i64 0, .int .i64 0, .int .i64 0, .slice none 0 0, .slice none 0 0, .slice none 0 0, .int .i64 0, .int .i64 0, .int .i64 0, .int .i64 0, .int .i64 0, .int .i64 0, .int .i64 0, .int .i64 0, .int .i64 0, .int .i64 0, .int .i64 0] 26)) infoLk rfl (by simp [Value.oneCell']) ?_))
  rw [World.setRow_alloc_new]
  clear cB4 HRG HB2 Bh2 Gh2 Kh2
  generalize w2.alloc (.cells #[.string l.name, .int .i64 l.kind, .int .i64 l.src, .int .i64 l.dst, .slice a0 l.rate.length n0, .slice a1 l.band.lo.length n1, .slice a2 l.band.hi.length n2, .int .i64 l.positions, .int .i64 l.speed, .int .i64 l.leak, .int .i64 l.crest, .int .i64 l.num, .int .i64 l.den, .int .i64 l.prime, .int .i64 l.brk, .int .i64 l.backNum, .int .i64 l.backDen, .int .i64 l.delay] 26) = w3 at *
  generalize w2.heap.size = bL at *
  have HQ0 := Lib.hid (Below.refl w3.heap.size w3)
  go_wp2_with (first | (refine wpList_load_rowW (by first | (go_simp; done) | rfl) 26 _ rfl _ rfl 26 _ _ _ Lh3.out undLk rfl infoLk ?_) | (refine wpList_load_rowW (by first | (go_simp; done) | rfl) 28 _ rfl _ rfl 28 _ _ _ Gh3.out undGt rfl infoGt ?_))
  refine (valid_any l (.slice a0 l.rate.length n0) (.slice a1 l.band.lo.length n1) (.slice a2 l.band.hi.length n2) g _).mono ?_
  rintro e w4 ⟨rfl, hb⟩
  have HB4 := Lib.hid (HB3.out.trans (hb.mono HB3.out.size))
  have Lh4 := Lib.hid (blk_below Lh3.out hb (blk_lt Lh3.out))
  have Gh4 := Lib.hid (blk_below Gh3.out hb (blk_lt Gh3.out))
  have Kh4 := Lib.hid (blk_below Kh3.out hb (blk_lt Kh3.out))
  clear HB3 Lh3 Gh3 Kh3
  clear hb
  cases hV : decide (ValidG l g)
  · go_wp2_with fail
    go_ret
    exact ⟨rfl, HB4.out⟩
  have HV := Lib.hid (of_decide_eq_true hV)
  clear hV
  have cK0 := rowN Kh4.out 0 (.int .i64 k.pos.lo) rfl
  have cK1 := rowN Kh4.out 1 (.int .i64 k.pos.hi) rfl
  have cK2 := rowN Kh4.out 2 (.int .i64 k.target) rfl
  have cL7 := rowN Lh4.out 7 (.int .i64 l.positions) rfl
  by_cases t1 : k.pos.lo < 0
  · go_wp2_with fail
    go_ret
    exact ⟨rfl, HB4.out⟩
  by_cases t2 : l.positions < k.pos.hi
  · go_wp2_with fail
    go_ret
    exact ⟨rfl, HB4.out⟩
  by_cases t3 : k.target < 0
  · go_wp2_with fail
    go_ret
    exact ⟨rfl, HB4.out⟩
  by_cases t4 : l.positions < k.target
  · go_wp2_with fail
    go_ret
    exact ⟨rfl, HB4.out⟩
  have cG0 := rowN Gh4.out 0 (.int .i64 g.pos) rfl
  go_wp2_with (first | (refine wpList_load_range (by first | (go_simp; done) | rfl) 50 _ rfl _ _ rfl _ _ (range2 (rowN Kh4.out 0 (.int .i64 k.pos.lo) rfl) (rowN Kh4.out 1 (.int .i64 k.pos.hi) rfl)) undSp rfl infoSp ?_))
  refine (has_any k.pos g.pos _).mono ?_
  rintro e w5 ⟨rfl, hb⟩
  have HB5 := Lib.hid (HB4.out.trans (hb.mono HB4.out.size))
  have Lh5 := Lib.hid (blk_below Lh4.out hb (blk_lt Lh4.out))
  have Gh5 := Lib.hid (blk_below Gh4.out hb (blk_lt Gh4.out))
  have Kh5 := Lib.hid (blk_below Kh4.out hb (blk_lt Kh4.out))
  clear HB4 Lh4 Gh4 Kh4
  clear hb
  cases hH : hasS k.pos g.pos
  · go_wp2_with fail
    go_ret
    exact ⟨rfl, HB5.out⟩
  have HH := Lib.hid (hasS_iff.1 hH)
  clear hH cK0 cK1 cK2 cL7 cG0
  obtain ⟨wl, wh, sl, sh, m, q, e1, e2, e3, e4, e5, e6, e7, e8, e9, e10, e11⟩ := drifts_law (l := l) (p := g.pos) (t := g.target) (st := g.stuck) (o := g.opened) (k := k) HLK.out ⟨HV.out.1, HV.out.2.1⟩ ⟨HV.out.2.2.1, HV.out.2.2.2⟩ (by omega) (by omega) ⟨by omega, by omega⟩ HH.out
  have hlp := link_pos HLK.out
  have ip : I64 (0 : Int) := ⟨by omega, by omega⟩
  have iP : I64 l.positions := ⟨by omega, by omega⟩
  have C1 : Hid (∀ W, Calls Try.prog 17 #[.agg #[.string l.name, .int .i64 l.kind, .int .i64 l.src, .int .i64 l.dst, .slice a0 l.rate.length n0, .slice a1 l.band.lo.length n1, .slice a2 l.band.hi.length n2, .int .i64 l.positions, .int .i64 l.speed, .int .i64 l.leak, .int .i64 l.crest, .int .i64 l.num, .int .i64 l.den, .int .i64 l.prime, .int .i64 l.brk, .int .i64 l.backNum, .int .i64 l.backDen, .int .i64 l.delay], .agg #[.int .i64 k.pos.lo, .int .i64 k.pos.hi, .int .i64 k.target, .int .i64 k.opened.lo, .int .i64 k.opened.hi], .bool false] W (fun e W' => e = .returned (.agg #[.int .i64 wl, .int .i64 wh, .int .i64 k.target, .int .i64 k.opened.lo, .int .i64 k.opened.hi]) ∧ Below W.heap.size W W')) := Lib.hid fun W => by have h := drift_wide l (.slice a0 l.rate.length n0) (.slice a1 l.band.lo.length n1) (.slice a2 l.band.hi.length n2) k W ISP.out HK1.out HK2.out; rw [e1] at h; exact h
  have C2 : Hid (∀ W, Calls Try.prog 17 #[.agg #[.string l.name, .int .i64 l.kind, .int .i64 l.src, .int .i64 l.dst, .slice a0 l.rate.length n0, .slice a1 l.band.lo.length n1, .slice a2 l.band.hi.length n2, .int .i64 l.positions, .int .i64 l.speed, .int .i64 l.leak, .int .i64 l.crest, .int .i64 l.num, .int .i64 l.den, .int .i64 l.prime, .int .i64 l.brk, .int .i64 l.backNum, .int .i64 l.backDen, .int .i64 l.delay], .agg #[.int .i64 k.pos.lo, .int .i64 k.pos.hi, .int .i64 k.target, .int .i64 k.opened.lo, .int .i64 k.opened.hi], .bool true] W (fun e W' => e = .returned (.agg #[.int .i64 sl, .int .i64 sh, .int .i64 k.target, .int .i64 k.opened.lo, .int .i64 k.opened.hi]) ∧ Below W.heap.size W W')) := Lib.hid fun W => by have h := drift_sure l (.slice a0 l.rate.length n0) (.slice a1 l.band.lo.length n1) (.slice a2 l.band.hi.length n2) k W ISP.out HK1.out HK2.out HK3.out; rw [e2] at h; exact h
  have C3 : Hid (∀ W, Calls Try.prog 13 #[.agg #[.string l.name, .int .i64 l.kind, .int .i64 l.src, .int .i64 l.dst, .slice a0 l.rate.length n0, .slice a1 l.band.lo.length n1, .slice a2 l.band.hi.length n2, .int .i64 l.positions, .int .i64 l.speed, .int .i64 l.leak, .int .i64 l.crest, .int .i64 l.num, .int .i64 l.den, .int .i64 l.prime, .int .i64 l.brk, .int .i64 l.backNum, .int .i64 l.backDen, .int .i64 l.delay], .agg #[.int .i64 g.pos, .int .i64 g.target, .bool g.stuck, .bool g.opened]] W (fun e W' => e = .returned (.agg #[.int .i64 m, .int .i64 g.target, .bool g.stuck, .bool g.opened]) ∧ Below W.heap.size W W')) := Lib.hid fun W => by have h := move_any l (.slice a0 l.rate.length n0) (.slice a1 l.band.lo.length n1) (.slice a2 l.band.hi.length n2) ⟨g.pos, g.target, g.stuck, g.opened⟩ W ISP.out HG1.out HG2.out; rw [e3] at h; exact h
  have C4 : Hid (∀ W, Calls Try.prog 13 #[.agg #[.string l.name, .int .i64 l.kind, .int .i64 l.src, .int .i64 l.dst, .slice a0 l.rate.length n0, .slice a1 l.band.lo.length n1, .slice a2 l.band.hi.length n2, .int .i64 l.positions, .int .i64 l.speed, .int .i64 l.leak, .int .i64 l.crest, .int .i64 l.num, .int .i64 l.den, .int .i64 l.prime, .int .i64 l.brk, .int .i64 l.backNum, .int .i64 l.backDen, .int .i64 l.delay], .agg #[.int .i64 g.pos, .int .i64 k.target, .bool false, .bool g.opened]] W (fun e W' => e = .returned (.agg #[.int .i64 q, .int .i64 k.target, .bool false, .bool g.opened]) ∧ Below W.heap.size W W')) := Lib.hid fun W => by have h := move_any l (.slice a0 l.rate.length n0) (.slice a1 l.band.lo.length n1) (.slice a2 l.band.hi.length n2) ⟨g.pos, k.target, false, g.opened⟩ W ISP.out HG1.out HK3.out; rw [e4] at h; exact h
  have C5 : Hid (∀ W, Calls Try.prog 13 #[.agg #[.string l.name, .int .i64 l.kind, .int .i64 l.src, .int .i64 l.dst, .slice a0 l.rate.length n0, .slice a1 l.band.lo.length n1, .slice a2 l.band.hi.length n2, .int .i64 l.positions, .int .i64 l.speed, .int .i64 l.leak, .int .i64 l.crest, .int .i64 l.num, .int .i64 l.den, .int .i64 l.prime, .int .i64 l.brk, .int .i64 l.backNum, .int .i64 l.backDen, .int .i64 l.delay], .agg #[.int .i64 k.pos.lo, .int .i64 0, .bool false, .bool false]] W (fun e W' => e = .returned (.agg #[.int .i64 wl, .int .i64 0, .bool false, .bool false]) ∧ Below W.heap.size W W')) := Lib.hid fun W => by have h := move_any l (.slice a0 l.rate.length n0) (.slice a1 l.band.lo.length n1) (.slice a2 l.band.hi.length n2) ⟨k.pos.lo, 0, false, false⟩ W ISP.out HK1.out ip; rw [e5] at h; exact h
  have C6 : Hid (∀ W, Calls Try.prog 13 #[.agg #[.string l.name, .int .i64 l.kind, .int .i64 l.src, .int .i64 l.dst, .slice a0 l.rate.length n0, .slice a1 l.band.lo.length n1, .slice a2 l.band.hi.length n2, .int .i64 l.positions, .int .i64 l.speed, .int .i64 l.leak, .int .i64 l.crest, .int .i64 l.num, .int .i64 l.den, .int .i64 l.prime, .int .i64 l.brk, .int .i64 l.backNum, .int .i64 l.backDen, .int .i64 l.delay], .agg #[.int .i64 k.pos.hi, .int .i64 l.positions, .bool false, .bool false]] W (fun e W' => e = .returned (.agg #[.int .i64 wh, .int .i64 l.positions, .bool false, .bool false]) ∧ Below W.heap.size W W')) := Lib.hid fun W => by have h := move_any l (.slice a0 l.rate.length n0) (.slice a1 l.band.lo.length n1) (.slice a2 l.band.hi.length n2) ⟨k.pos.hi, l.positions, false, false⟩ W ISP.out HK2.out iP; rw [e6] at h; exact h
  have C7 : Hid (∀ W, Calls Try.prog 16 #[.agg #[.int .i64 wl, .int .i64 wh], .int .i64 m] W (fun e W' => e = .returned (.bool true) ∧ Below W.heap.size W W')) := Lib.hid fun W => by have h := has_any ⟨wl, wh⟩ m W; rw [e7] at h; exact h
  have C8 : Hid (∀ W, Calls Try.prog 16 #[.agg #[.int .i64 sl, .int .i64 sh], .int .i64 q] W (fun e W' => e = .returned (.bool true) ∧ Below W.heap.size W W')) := Lib.hid fun W => by have h := has_any ⟨sl, sh⟩ q W; rw [e8] at h; exact h
  have C9 : Hid (∀ W, Calls Try.prog 18 #[.agg #[.int .i64 sl, .int .i64 sh], .agg #[.int .i64 wl, .int .i64 wh]] W (fun e W' => e = .returned (.bool true) ∧ Below W.heap.size W W')) := Lib.hid fun W => by have h := within_any ⟨sl, sh⟩ ⟨wl, wh⟩ W; rw [e9] at h; exact h
  have E10 := Lib.hid e10
  have E11 := Lib.hid e11
  clear e1 e2 e3 e4 e5 e6 e7 e8 e9 e10 e11 hlp ip iP
  go_wp2_with (first | (refine wpList_load_rowW (by first | (go_simp; done) | rfl) 26 _ rfl _ rfl 26 _ _ _ Lh5.out undLk rfl infoLk ?_) | (refine wpList_load_rowW (by first | (go_simp; done) | rfl) 52 _ rfl _ rfl 52 _ _ _ Kh5.out undKn rfl infoKn ?_))
  refine (C1.out _).mono ?_
  rintro e w6 ⟨rfl, hb⟩
  have HB6 := Lib.hid (HB5.out.trans (hb.mono HB5.out.size))
  have Lh6 := Lib.hid (blk_below Lh5.out hb (blk_lt Lh5.out))
  have Gh6 := Lib.hid (blk_below Gh5.out hb (blk_lt Gh5.out))
  have Kh6 := Lib.hid (blk_below Kh5.out hb (blk_lt Kh5.out))
  clear HB5 Lh5 Gh5 Kh5
  clear hb
  clear t1 t2 t3 t4
  go_upto_region 8 with fail
  have HB7 := Lib.hid (HB6.out.alloc HB6.out.size (.cells #[.int .i64 wl, .int .i64 wh, .int .i64 k.target, .int .i64 k.opened.lo, .int .i64 k.opened.hi] 52 (0, 0)))
  have Wh7 := Lib.hid (heap_alloc_new w6 (.cells #[.int .i64 wl, .int .i64 wh, .int .i64 k.target, .int .i64 k.opened.lo, .int .i64 k.opened.hi] 52 (0, 0)))
  have Lh7 := Lib.hid (blk_below Lh6.out ((Below.refl w6.heap.size w6).alloc (Nat.le_refl _) (.cells #[.int .i64 wl, .int .i64 wh, .int .i64 k.target, .int .i64 k.opened.lo, .int .i64 k.opened.hi] 52 (0, 0))) (blk_lt Lh6.out))
  have Gh7 := Lib.hid (blk_below Gh6.out ((Below.refl w6.heap.size w6).alloc (Nat.le_refl _) (.cells #[.int .i64 wl, .int .i64 wh, .int .i64 k.target, .int .i64 k.opened.lo, .int .i64 k.opened.hi] 52 (0, 0))) (blk_lt Gh6.out))
  have Kh7 := Lib.hid (blk_below Kh6.out ((Below.refl w6.heap.size w6).alloc (Nat.le_refl _) (.cells #[.int .i64 wl, .int .i64 wh, .int .i64 k.target, .int .i64 k.opened.lo, .int .i64 k.opened.hi] 52 (0, 0))) (blk_lt Kh6.out))
  clear HB6 Lh6 Gh6 Kh6
  generalize w6.heap.size = bW at *
  generalize w6.alloc (.cells #[.int .i64 wl, .int .i64 wh, .int .i64 k.target, .int .i64 k.opened.lo, .int .i64 k.opened.hi] 52 (0, 0)) = w7 at *
  go_wp2_with (first | (refine wpList_load_rowW (by first | (go_simp; done) | rfl) 26 _ rfl _ rfl 26 _ _ _ Lh7.out undLk rfl infoLk ?_) | (refine wpList_load_rowW (by first | (go_simp; done) | rfl) 52 _ rfl _ rfl 52 _ _ _ Kh7.out undKn rfl infoKn ?_))
  refine (C2.out _).mono ?_
  rintro e w8 ⟨rfl, hb⟩
  have HB8 := Lib.hid (HB7.out.trans (hb.mono HB7.out.size))
  have Lh8 := Lib.hid (blk_below Lh7.out hb (blk_lt Lh7.out))
  have Gh8 := Lib.hid (blk_below Gh7.out hb (blk_lt Gh7.out))
  have Kh8 := Lib.hid (blk_below Kh7.out hb (blk_lt Kh7.out))
  have Wh8 := Lib.hid (blk_below Wh7.out hb (blk_lt Wh7.out))
  clear HB7 Lh7 Gh7 Kh7 Wh7
  clear hb
  go_upto_region 9 with fail
  have HB9 := Lib.hid (HB8.out.alloc HB8.out.size (.cells #[.int .i64 sl, .int .i64 sh, .int .i64 k.target, .int .i64 k.opened.lo, .int .i64 k.opened.hi] 52 (0, 0)))
  have Sh9 := Lib.hid (heap_alloc_new w8 (.cells #[.int .i64 sl, .int .i64 sh, .int .i64 k.target, .int .i64 k.opened.lo, .int .i64 k.opened.hi] 52 (0, 0)))
  have Lh9 := Lib.hid (blk_below Lh8.out ((Below.refl w8.heap.size w8).alloc (Nat.le_refl _) (.cells #[.int .i64 sl, .int .i64 sh, .int .i64 k.target, .int .i64 k.opened.lo, .int .i64 k.opened.hi] 52 (0, 0))) (blk_lt Lh8.out))
  have Gh9 := Lib.hid (blk_below Gh8.out ((Below.refl w8.heap.size w8).alloc (Nat.le_refl _) (.cells #[.int .i64 sl, .int .i64 sh, .int .i64 k.target, .int .i64 k.opened.lo, .int .i64 k.opened.hi] 52 (0, 0))) (blk_lt Gh8.out))
  have Kh9 := Lib.hid (blk_below Kh8.out ((Below.refl w8.heap.size w8).alloc (Nat.le_refl _) (.cells #[.int .i64 sl, .int .i64 sh, .int .i64 k.target, .int .i64 k.opened.lo, .int .i64 k.opened.hi] 52 (0, 0))) (blk_lt Kh8.out))
  have Wh9 := Lib.hid (blk_below Wh8.out ((Below.refl w8.heap.size w8).alloc (Nat.le_refl _) (.cells #[.int .i64 sl, .int .i64 sh, .int .i64 k.target, .int .i64 k.opened.lo, .int .i64 k.opened.hi] 52 (0, 0))) (blk_lt Wh8.out))
  clear HB8 Lh8 Gh8 Kh8 Wh8
  generalize w8.heap.size = bS at *
  generalize w8.alloc (.cells #[.int .i64 sl, .int .i64 sh, .int .i64 k.target, .int .i64 k.opened.lo, .int .i64 k.opened.hi] 52 (0, 0)) = w9 at *
  go_upto_region 10 with (first | (refine wpList_load_rowW (by first | (go_simp; done) | rfl) 28 _ rfl _ rfl 28 _ _ _ Gh9.out undGt rfl infoGt ?_))
  have HB10 := Lib.hid (HB9.out.alloc HB9.out.size (.cells #[.int .i64 g.pos, .int .i64 g.target, .bool g.stuck, .bool g.opened] 28 (0, 0)))
  have Oh10 := Lib.hid (heap_alloc_new w9 (.cells #[.int .i64 g.pos, .int .i64 g.target, .bool g.stuck, .bool g.opened] 28 (0, 0)))
  have Lh10 := Lib.hid (blk_below Lh9.out ((Below.refl w9.heap.size w9).alloc (Nat.le_refl _) (.cells #[.int .i64 g.pos, .int .i64 g.target, .bool g.stuck, .bool g.opened] 28 (0, 0))) (blk_lt Lh9.out))
  have Gh10 := Lib.hid (blk_below Gh9.out ((Below.refl w9.heap.size w9).alloc (Nat.le_refl _) (.cells #[.int .i64 g.pos, .int .i64 g.target, .bool g.stuck, .bool g.opened] 28 (0, 0))) (blk_lt Gh9.out))
  have Kh10 := Lib.hid (blk_below Kh9.out ((Below.refl w9.heap.size w9).alloc (Nat.le_refl _) (.cells #[.int .i64 g.pos, .int .i64 g.target, .bool g.stuck, .bool g.opened] 28 (0, 0))) (blk_lt Kh9.out))
  have Wh10 := Lib.hid (blk_below Wh9.out ((Below.refl w9.heap.size w9).alloc (Nat.le_refl _) (.cells #[.int .i64 g.pos, .int .i64 g.target, .bool g.stuck, .bool g.opened] 28 (0, 0))) (blk_lt Wh9.out))
  have Sh10 := Lib.hid (blk_below Sh9.out ((Below.refl w9.heap.size w9).alloc (Nat.le_refl _) (.cells #[.int .i64 g.pos, .int .i64 g.target, .bool g.stuck, .bool g.opened] 28 (0, 0))) (blk_lt Sh9.out))
  have ne_L_O : bL ≠ w9.heap.size := Nat.ne_of_lt (blk_lt Lh9.out)
  have ne_G_O : (w.heap.size + 1) ≠ w9.heap.size := Nat.ne_of_lt (blk_lt Gh9.out)
  have ne_K_O : (w.heap.size + 1 + 1) ≠ w9.heap.size := Nat.ne_of_lt (blk_lt Kh9.out)
  have ne_W_O : bW ≠ w9.heap.size := Nat.ne_of_lt (blk_lt Wh9.out)
  have ne_S_O : bS ≠ w9.heap.size := Nat.ne_of_lt (blk_lt Sh9.out)
  have le_O : w.heap.size ≤ w9.heap.size := HB9.out.size
  clear HB9 Lh9 Gh9 Kh9 Wh9 Sh9
  generalize w9.heap.size = bO at *
  generalize w9.alloc (.cells #[.int .i64 g.pos, .int .i64 g.target, .bool g.stuck, .bool g.opened] 28 (0, 0)) = w10 at *
  have z6 : w10.frozen? ⟨bO, 2, none⟩ = false := frozen_of_row _ _ _ _ _ Oh10.out
  have d6 := rowN Oh10.out 2 (.bool g.stuck) rfl
  go_upto_region 11 with fail
  have Oh11 : Hid ((w10.setCell ⟨bO, 2, none⟩ (.bool false)).heap[bO]? = some (.cells #[.int .i64 g.pos, .int .i64 g.target, .bool false, .bool g.opened] 28 (0, 0))) := Lib.hid ((heap_setCell_same _ _ _ _ _ _ Oh10.out).trans rfl)
  have Lh11 : Hid ((w10.setCell ⟨bO, 2, none⟩ (.bool false)).heap[bL]? = some (.cells #[.string l.name, .int .i64 l.kind, .int .i64 l.src, .int .i64 l.dst, .slice a0 l.rate.length n0, .slice a1 l.band.lo.length n1, .slice a2 l.band.hi.length n2, .int .i64 l.positions, .int .i64 l.speed, .int .i64 l.leak, .int .i64 l.crest, .int .i64 l.num, .int .i64 l.den, .int .i64 l.prime, .int .i64 l.brk, .int .i64 l.backNum, .int .i64 l.backDen, .int .i64 l.delay] 26 (0, 0))) := Lib.hid ((heap_setCell_other _ _ _ _ ne_L_O).trans Lh10.out)
  have Gh11 : Hid ((w10.setCell ⟨bO, 2, none⟩ (.bool false)).heap[(w.heap.size + 1)]? = some (.cells #[.int .i64 g.pos, .int .i64 g.target, .bool g.stuck, .bool g.opened] 28 (0, 0))) := Lib.hid ((heap_setCell_other _ _ _ _ ne_G_O).trans Gh10.out)
  have Kh11 : Hid ((w10.setCell ⟨bO, 2, none⟩ (.bool false)).heap[(w.heap.size + 1 + 1)]? = some (.cells #[.int .i64 k.pos.lo, .int .i64 k.pos.hi, .int .i64 k.target, .int .i64 k.opened.lo, .int .i64 k.opened.hi] 52 (0, 0))) := Lib.hid ((heap_setCell_other _ _ _ _ ne_K_O).trans Kh10.out)
  have Wh11 : Hid ((w10.setCell ⟨bO, 2, none⟩ (.bool false)).heap[bW]? = some (.cells #[.int .i64 wl, .int .i64 wh, .int .i64 k.target, .int .i64 k.opened.lo, .int .i64 k.opened.hi] 52 (0, 0))) := Lib.hid ((heap_setCell_other _ _ _ _ ne_W_O).trans Wh10.out)
  have Sh11 : Hid ((w10.setCell ⟨bO, 2, none⟩ (.bool false)).heap[bS]? = some (.cells #[.int .i64 sl, .int .i64 sh, .int .i64 k.target, .int .i64 k.opened.lo, .int .i64 k.opened.hi] 52 (0, 0))) := Lib.hid ((heap_setCell_other _ _ _ _ ne_S_O).trans Sh10.out)
  have HB11 : Hid (Below w.heap.size w (w10.setCell ⟨bO, 2, none⟩ (.bool false))) := Lib.hid (HB10.out.setCell le_O _)
  clear z6 d6 HB10 Lh10 Gh10 Kh10 Wh10 Sh10 Oh10
  generalize (w10.setCell ⟨bO, 2, none⟩ (.bool false)) = w11 at *
  have cK2 := rowN Kh11.out 2 (.int .i64 k.target) rfl
  have z6 : w11.frozen? ⟨bO, 1, none⟩ = false := frozen_of_row _ _ _ _ _ Oh11.out
  have d6 := rowN Oh11.out 1 (.int .i64 g.target) rfl
  go_upto_region 12 with fail
  have Oh12 : Hid ((w11.setCell ⟨bO, 1, none⟩ (.int .i64 k.target)).heap[bO]? = some (.cells #[.int .i64 g.pos, .int .i64 k.target, .bool false, .bool g.opened] 28 (0, 0))) := Lib.hid ((heap_setCell_same _ _ _ _ _ _ Oh11.out).trans rfl)
  have Lh12 : Hid ((w11.setCell ⟨bO, 1, none⟩ (.int .i64 k.target)).heap[bL]? = some (.cells #[.string l.name, .int .i64 l.kind, .int .i64 l.src, .int .i64 l.dst, .slice a0 l.rate.length n0, .slice a1 l.band.lo.length n1, .slice a2 l.band.hi.length n2, .int .i64 l.positions, .int .i64 l.speed, .int .i64 l.leak, .int .i64 l.crest, .int .i64 l.num, .int .i64 l.den, .int .i64 l.prime, .int .i64 l.brk, .int .i64 l.backNum, .int .i64 l.backDen, .int .i64 l.delay] 26 (0, 0))) := Lib.hid ((heap_setCell_other _ _ _ _ ne_L_O).trans Lh11.out)
  have Gh12 : Hid ((w11.setCell ⟨bO, 1, none⟩ (.int .i64 k.target)).heap[(w.heap.size + 1)]? = some (.cells #[.int .i64 g.pos, .int .i64 g.target, .bool g.stuck, .bool g.opened] 28 (0, 0))) := Lib.hid ((heap_setCell_other _ _ _ _ ne_G_O).trans Gh11.out)
  have Kh12 : Hid ((w11.setCell ⟨bO, 1, none⟩ (.int .i64 k.target)).heap[(w.heap.size + 1 + 1)]? = some (.cells #[.int .i64 k.pos.lo, .int .i64 k.pos.hi, .int .i64 k.target, .int .i64 k.opened.lo, .int .i64 k.opened.hi] 52 (0, 0))) := Lib.hid ((heap_setCell_other _ _ _ _ ne_K_O).trans Kh11.out)
  have Wh12 : Hid ((w11.setCell ⟨bO, 1, none⟩ (.int .i64 k.target)).heap[bW]? = some (.cells #[.int .i64 wl, .int .i64 wh, .int .i64 k.target, .int .i64 k.opened.lo, .int .i64 k.opened.hi] 52 (0, 0))) := Lib.hid ((heap_setCell_other _ _ _ _ ne_W_O).trans Wh11.out)
  have Sh12 : Hid ((w11.setCell ⟨bO, 1, none⟩ (.int .i64 k.target)).heap[bS]? = some (.cells #[.int .i64 sl, .int .i64 sh, .int .i64 k.target, .int .i64 k.opened.lo, .int .i64 k.opened.hi] 52 (0, 0))) := Lib.hid ((heap_setCell_other _ _ _ _ ne_S_O).trans Sh11.out)
  have HB12 : Hid (Below w.heap.size w (w11.setCell ⟨bO, 1, none⟩ (.int .i64 k.target))) := Lib.hid (HB11.out.setCell le_O _)
  clear z6 d6 HB11 Lh11 Gh11 Kh11 Wh11 Sh11 Oh11
  generalize (w11.setCell ⟨bO, 1, none⟩ (.int .i64 k.target)) = w12 at *
  clear cK2
  have q6 := field_pos
  refine wp_region_noPanic ?_
  refine wp_region_held_drew (S := fun w' => w'.heap[bL]? = some (.cells #[.string l.name, .int .i64 l.kind, .int .i64 l.src, .int .i64 l.dst, .slice a0 l.rate.length n0, .slice a1 l.band.lo.length n1, .slice a2 l.band.hi.length n2, .int .i64 l.positions, .int .i64 l.speed, .int .i64 l.leak, .int .i64 l.crest, .int .i64 l.num, .int .i64 l.den, .int .i64 l.prime, .int .i64 l.brk, .int .i64 l.backNum, .int .i64 l.backDen, .int .i64 l.delay] 26 (0, 0)) ∧ w'.heap[(w.heap.size + 1)]? = some (.cells #[.int .i64 g.pos, .int .i64 g.target, .bool g.stuck, .bool g.opened] 28 (0, 0)) ∧ w'.heap[bW]? = some (.cells #[.int .i64 wl, .int .i64 wh, .int .i64 k.target, .int .i64 k.opened.lo, .int .i64 k.opened.hi] 52 (0, 0)) ∧ w'.heap[bS]? = some (.cells #[.int .i64 sl, .int .i64 sh, .int .i64 k.target, .int .i64 k.opened.lo, .int .i64 k.opened.hi] 52 (0, 0)) ∧ w'.heap[bO]? = some (.cells #[.int .i64 g.pos, .int .i64 k.target, .bool false, .bool g.opened] 28 (0, 0)) ∧ w'.heap[(w.heap.size + 1 + 1)]? = some (.cells #[.int .i64 k.pos.lo, .int .i64 k.pos.hi, .int .i64 k.target, .int .i64 k.opened.lo, .int .i64 k.opened.hi] 52 (0, 0)) ∧ Below w.heap.size w w') (by kernel_rfl) (stepD ⟨Lh12.out, Gh12.out, Wh12.out, Sh12.out, Oh12.out, Kh12.out, HB12.out⟩ (Below.refl _ _).drew) (fun hHeld => ?_)
  refine' wpAnyH_take (i := 0) (v := _) (by simp only [List.getElem?_toArray, List.getElem?_cons_zero]; exact rfl) (by kernel_rfl) (by kernel_rfl) (by kernel_rfl) (fun _ _ _ h => h) (Or.inl ⟨by rfl, ?y0x1⟩) hHeld ?r0x1
  case y0x1 => (intro w hSw; (try dsimp only at hSw); go_simp; try with_reducible rfl)
  try simp only [Act.put, List.setIfInBounds_toArray, List.set_cons_zero, List.set_cons_succ]
  refine' wpAnyH_take (i := 1) (v := _) (by simp only [List.getElem?_toArray, List.getElem?_cons_succ, List.getElem?_cons_zero]; exact rfl) (by kernel_rfl) (by kernel_rfl) (by kernel_rfl) (fun _ _ _ h => h) (Or.inl ⟨by rfl, ?y1x2⟩) hHeld ?r1x2
  case y1x2 => (intro w hSw; refine exec_load_range 50 ?_ ?_ _ _ ?_ _ _ (range2 (rowN (hSw.2.2.1) 0 (.int .i64 wl) rfl) (rowN (hSw.2.2.1) 1 (.int .i64 wh) rfl)) undSp rfl infoSp; rotate_left 1; exact rfl; exact rfl)
  try simp only [Act.put, List.setIfInBounds_toArray, List.set_cons_zero, List.set_cons_succ]
  refine' wpAnyH_take (i := 2) (v := _) (by simp only [List.getElem?_toArray, List.getElem?_cons_succ, List.getElem?_cons_zero]; exact rfl) (by kernel_rfl) (by kernel_rfl) (by kernel_rfl) (fun _ _ _ h => h) (Or.inl ⟨by rfl, ?y2x3⟩) hHeld ?r2x3
  case y2x3 => (intro w hSw; refine exec_load_row 26 ?_ ?_ _ ?_ 26 _ _ _ (hSw.1) undLk rfl infoLk; rotate_left 1; exact rfl; exact rfl)
  try simp only [Act.put, List.setIfInBounds_toArray, List.set_cons_zero, List.set_cons_succ]
  refine' wpAnyH_take (i := 3) (v := _) (by simp only [List.getElem?_toArray, List.getElem?_cons_succ, List.getElem?_cons_zero]; exact rfl) (by kernel_rfl) (by kernel_rfl) (by kernel_rfl) (fun _ _ _ h => h) (Or.inl ⟨by rfl, ?y3x4⟩) hHeld ?r3x4
  case y3x4 => (intro w hSw; refine exec_load_row 28 ?_ ?_ _ ?_ 28 _ _ _ (hSw.2.1) undGt rfl infoGt; rotate_left 1; exact rfl; exact rfl)
  try simp only [Act.put, List.setIfInBounds_toArray, List.set_cons_zero, List.set_cons_succ]
  refine wpAnyH_ready (rs := [4]) (by kernel_rfl) (by simp) ?_
  refine AllReadyH.cons (by simp only [List.getElem?_toArray, List.getElem?_cons_succ, List.getElem?_cons_zero]; exact rfl) (fun K hK => ?_) AllReadyH.nil
  go_simp
  refine (C3.out _).mono ?_
  rintro e w' ⟨rfl, hb⟩
  refine hK.out _ _ (stepD hHeld hb) (fun hHeld => ?_)
  clear hK K hb
  try simp only [Act.put, List.setIfInBounds_toArray, List.set_cons_zero, List.set_cons_succ]
  refine' wpAnyH_take (i := 5) (v := _) (by simp only [List.getElem?_toArray, List.getElem?_cons_succ, List.getElem?_cons_zero]; exact rfl) (by kernel_rfl) (by kernel_rfl) (by kernel_rfl) (fun _ _ _ h => h) (Or.inl ⟨by rfl, ?y5x5⟩) hHeld ?r5x5
  case y5x5 => (intro w hSw; (try dsimp only at hSw); go_simp; try with_reducible rfl)
  try simp only [Act.put, List.setIfInBounds_toArray, List.set_cons_zero, List.set_cons_succ]
  refine wpAnyH_ready (rs := [6]) (by kernel_rfl) (by simp) ?_
  refine AllReadyH.cons (by simp only [List.getElem?_toArray, List.getElem?_cons_succ, List.getElem?_cons_zero]; exact rfl) (fun K hK => ?_) AllReadyH.nil
  go_simp
  refine (C7.out _).mono ?_
  rintro e w' ⟨rfl, hb⟩
  refine hK.out _ _ (stepD hHeld hb) (fun hHeld => ?_)
  clear hK K hb
  try simp only [Act.put, List.setIfInBounds_toArray, List.set_cons_zero, List.set_cons_succ]
  refine' wpAnyH_take (i := 7) (v := _) (by simp only [List.getElem?_toArray, List.getElem?_cons_succ, List.getElem?_cons_zero]; exact rfl) (by kernel_rfl) (by kernel_rfl) (by kernel_rfl) (fun _ _ _ h => h) (Or.inl ⟨by rfl, ?y7x6⟩) hHeld ?r7x6
  case y7x6 => (intro w hSw; (try dsimp only at hSw); go_simp; try with_reducible rfl)
  try simp only [Act.put, List.setIfInBounds_toArray, List.set_cons_zero, List.set_cons_succ]
  refine' wpAnyH_take (i := 8) (v := _) (by simp only [List.getElem?_toArray, List.getElem?_cons_succ, List.getElem?_cons_zero]; exact rfl) (by kernel_rfl) (by kernel_rfl) (by kernel_rfl) (fun _ _ _ h => h) (Or.inl ⟨by rfl, ?y8x7⟩) hHeld ?r8x7
  case y8x7 => (intro w hSw; (try dsimp only at hSw); go_simp; try with_reducible rfl)
  try simp only [Act.put, List.setIfInBounds_toArray, List.set_cons_zero, List.set_cons_succ]
  refine' wpAnyH_take (i := 9) (v := _) (by simp only [List.getElem?_toArray, List.getElem?_cons_succ, List.getElem?_cons_zero]; exact rfl) (by kernel_rfl) (by kernel_rfl) (by kernel_rfl) (fun _ _ _ h => h) (Or.inl ⟨by rfl, ?y9x8⟩) hHeld ?r9x8
  case y9x8 => (intro w hSw; refine exec_load_range 50 ?_ ?_ _ _ ?_ _ _ (range2 (rowN (hSw.2.2.2.1) 0 (.int .i64 sl) rfl) (rowN (hSw.2.2.2.1) 1 (.int .i64 sh) rfl)) undSp rfl infoSp; rotate_left 1; exact rfl; exact rfl)
  try simp only [Act.put, List.setIfInBounds_toArray, List.set_cons_zero, List.set_cons_succ]
  refine' wpAnyH_take (i := 10) (v := _) (by simp only [List.getElem?_toArray, List.getElem?_cons_succ, List.getElem?_cons_zero]; exact rfl) (by kernel_rfl) (by kernel_rfl) (by kernel_rfl) (fun _ _ _ h => h) (Or.inl ⟨by rfl, ?y10x9⟩) hHeld ?r10x9
  case y10x9 => (intro w hSw; refine exec_load_row 26 ?_ ?_ _ ?_ 26 _ _ _ (hSw.1) undLk rfl infoLk; rotate_left 1; exact rfl; exact rfl)
  try simp only [Act.put, List.setIfInBounds_toArray, List.set_cons_zero, List.set_cons_succ]
  refine' wpAnyH_take (i := 11) (v := _) (by simp only [List.getElem?_toArray, List.getElem?_cons_succ, List.getElem?_cons_zero]; exact rfl) (by kernel_rfl) (by kernel_rfl) (by kernel_rfl) (fun _ _ _ h => h) (Or.inl ⟨by rfl, ?y11x10⟩) hHeld ?r11x10
  case y11x10 => (intro w hSw; refine exec_load_row 28 ?_ ?_ _ ?_ 28 _ _ _ (hSw.2.2.2.2.1) undGt rfl infoGt; rotate_left 1; exact rfl; exact rfl)
  try simp only [Act.put, List.setIfInBounds_toArray, List.set_cons_zero, List.set_cons_succ]
  refine wpAnyH_ready (rs := [12]) (by kernel_rfl) (by simp) ?_
  refine AllReadyH.cons (by simp only [List.getElem?_toArray, List.getElem?_cons_succ, List.getElem?_cons_zero]; exact rfl) (fun K hK => ?_) AllReadyH.nil
  go_simp
  refine (C4.out _).mono ?_
  rintro e w' ⟨rfl, hb⟩
  refine hK.out _ _ (stepD hHeld hb) (fun hHeld => ?_)
  clear hK K hb
  try simp only [Act.put, List.setIfInBounds_toArray, List.set_cons_zero, List.set_cons_succ]
  refine' wpAnyH_take (i := 13) (v := _) (by simp only [List.getElem?_toArray, List.getElem?_cons_succ, List.getElem?_cons_zero]; exact rfl) (by kernel_rfl) (by kernel_rfl) (by kernel_rfl) (fun _ _ _ h => h) (Or.inl ⟨by rfl, ?y13x11⟩) hHeld ?r13x11
  case y13x11 => (intro w hSw; (try dsimp only at hSw); go_simp; try with_reducible rfl)
  try simp only [Act.put, List.setIfInBounds_toArray, List.set_cons_zero, List.set_cons_succ]
  refine wpAnyH_ready (rs := [14]) (by kernel_rfl) (by simp) ?_
  refine AllReadyH.cons (by simp only [List.getElem?_toArray, List.getElem?_cons_succ, List.getElem?_cons_zero]; exact rfl) (fun K hK => ?_) AllReadyH.nil
  go_simp
  refine (C8.out _).mono ?_
  rintro e w' ⟨rfl, hb⟩
  refine hK.out _ _ (stepD hHeld hb) (fun hHeld => ?_)
  clear hK K hb
  try simp only [Act.put, List.setIfInBounds_toArray, List.set_cons_zero, List.set_cons_succ]
  refine' wpAnyH_take (i := 15) (v := _) (by simp only [List.getElem?_toArray, List.getElem?_cons_succ, List.getElem?_cons_zero]; exact rfl) (by kernel_rfl) (by kernel_rfl) (by kernel_rfl) (fun _ _ _ h => h) (Or.inl ⟨by rfl, ?y15x12⟩) hHeld ?r15x12
  case y15x12 => (intro w hSw; (try dsimp only at hSw); go_simp; try with_reducible rfl)
  try simp only [Act.put, List.setIfInBounds_toArray, List.set_cons_zero, List.set_cons_succ]
  refine' wpAnyH_take (i := 16) (v := _) (by simp only [List.getElem?_toArray, List.getElem?_cons_succ, List.getElem?_cons_zero]; exact rfl) (by kernel_rfl) (by kernel_rfl) (by kernel_rfl) (fun _ _ _ h => h) (Or.inl ⟨by rfl, ?y16x13⟩) hHeld ?r16x13
  case y16x13 => (intro w hSw; (try dsimp only at hSw); go_simp; try with_reducible rfl)
  try simp only [Act.put, List.setIfInBounds_toArray, List.set_cons_zero, List.set_cons_succ]
  refine' wpAnyH_take (i := 17) (v := _) (by simp only [List.getElem?_toArray, List.getElem?_cons_succ, List.getElem?_cons_zero]; exact rfl) (by kernel_rfl) (by kernel_rfl) (by kernel_rfl) (fun _ _ _ h => h) (Or.inl ⟨by rfl, ?y17x14⟩) hHeld ?r17x14
  case y17x14 => (intro w hSw; (try dsimp only at hSw); go_simp; try with_reducible rfl)
  try simp only [Act.put, List.setIfInBounds_toArray, List.set_cons_zero, List.set_cons_succ]
  refine' wpAnyH_take (i := 18) (v := _) (by simp only [List.getElem?_toArray, List.getElem?_cons_succ, List.getElem?_cons_zero]; exact rfl) (by kernel_rfl) (by kernel_rfl) (by kernel_rfl) (fun _ _ _ h => h) (Or.inl ⟨by rfl, ?y18x15⟩) hHeld ?r18x15
  case y18x15 => (intro w hSw; refine exec_load_range 50 ?_ ?_ _ _ ?_ _ _ (range2 (rowN (hSw.2.2.2.1) 0 (.int .i64 sl) rfl) (rowN (hSw.2.2.2.1) 1 (.int .i64 sh) rfl)) undSp rfl infoSp; rotate_left 1; exact rfl; exact rfl)
  try simp only [Act.put, List.setIfInBounds_toArray, List.set_cons_zero, List.set_cons_succ]
  refine' wpAnyH_take (i := 19) (v := _) (by simp only [List.getElem?_toArray, List.getElem?_cons_succ, List.getElem?_cons_zero]; exact rfl) (by kernel_rfl) (by kernel_rfl) (by kernel_rfl) (fun _ _ _ h => h) (Or.inl ⟨by rfl, ?y19x16⟩) hHeld ?r19x16
  case y19x16 => (intro w hSw; (try dsimp only at hSw); go_simp; try with_reducible rfl)
  try simp only [Act.put, List.setIfInBounds_toArray, List.set_cons_zero, List.set_cons_succ]
  refine' wpAnyH_take (i := 20) (v := _) (by simp only [List.getElem?_toArray, List.getElem?_cons_succ, List.getElem?_cons_zero]; exact rfl) (by kernel_rfl) (by kernel_rfl) (by kernel_rfl) (fun _ _ _ h => h) (Or.inl ⟨by rfl, ?y20x17⟩) hHeld ?r20x17
  case y20x17 => (intro w hSw; refine exec_load_range 50 ?_ ?_ _ _ ?_ _ _ (range2 (rowN (hSw.2.2.1) 0 (.int .i64 wl) rfl) (rowN (hSw.2.2.1) 1 (.int .i64 wh) rfl)) undSp rfl infoSp; rotate_left 1; exact rfl; exact rfl)
  try simp only [Act.put, List.setIfInBounds_toArray, List.set_cons_zero, List.set_cons_succ]
  refine wpAnyH_ready (rs := [21]) (by kernel_rfl) (by simp) ?_
  refine AllReadyH.cons (by simp only [List.getElem?_toArray, List.getElem?_cons_succ, List.getElem?_cons_zero]; exact rfl) (fun K hK => ?_) AllReadyH.nil
  go_simp
  refine (C9.out _).mono ?_
  rintro e w' ⟨rfl, hb⟩
  refine hK.out _ _ (stepD hHeld hb) (fun hHeld => ?_)
  clear hK K hb
  try simp only [Act.put, List.setIfInBounds_toArray, List.set_cons_zero, List.set_cons_succ]
  refine' wpAnyH_take (i := 22) (v := _) (by simp only [List.getElem?_toArray, List.getElem?_cons_succ, List.getElem?_cons_zero]; exact rfl) (by kernel_rfl) (by kernel_rfl) (by kernel_rfl) (fun _ _ _ h => h) (Or.inl ⟨by rfl, ?y22x18⟩) hHeld ?r22x18
  case y22x18 => (intro w hSw; (try dsimp only at hSw); go_simp; try with_reducible rfl)
  try simp only [Act.put, List.setIfInBounds_toArray, List.set_cons_zero, List.set_cons_succ]
  refine' wpAnyH_take (i := 23) (v := _) (by simp only [List.getElem?_toArray, List.getElem?_cons_succ, List.getElem?_cons_zero]; exact rfl) (by kernel_rfl) (by kernel_rfl) (by kernel_rfl) (fun _ _ _ h => h) (Or.inl ⟨by rfl, ?y23x19⟩) hHeld ?r23x19
  case y23x19 => (intro w hSw; (try dsimp only at hSw); go_simp; try with_reducible rfl)
  try simp only [Act.put, List.setIfInBounds_toArray, List.set_cons_zero, List.set_cons_succ]
  refine wpAnyH_done (by kernel_rfl) ?_ _
  refine NoPanic.normal ?_
  obtain ⟨qL, qG, qW, qS, qO, qK, qB⟩ := hHeld
  have Lh13 := Lib.hid qL
  have Gh13 := Lib.hid qG
  have Wh13 := Lib.hid qW
  have Sh13 := Lib.hid qS
  have Oh13 := Lib.hid qO
  have Kh13 := Lib.hid qK
  have HB13 := Lib.hid qB
  clear qB qL qG qW qS qO qK Lh12 Gh12 Kh12 Wh12 Sh12 Oh12 HB12
  clear q6
  have cK0 := rowN Kh13.out 0 (.int .i64 k.pos.lo) rfl
  go_wp2_with (first | (refine wpList_load_rowW (by first | (go_simp; done) | rfl) 26 _ rfl _ rfl 26 _ _ _ Lh13.out undLk rfl infoLk ?_))
  refine (C5.out _).mono ?_
  rintro e w13 ⟨rfl, hb⟩
  have HB14 := Lib.hid (HB13.out.trans (hb.mono HB13.out.size))
  have Lh14 := Lib.hid (blk_below Lh13.out hb (blk_lt Lh13.out))
  have Gh14 := Lib.hid (blk_below Gh13.out hb (blk_lt Gh13.out))
  have Kh14 := Lib.hid (blk_below Kh13.out hb (blk_lt Kh13.out))
  have Wh14 := Lib.hid (blk_below Wh13.out hb (blk_lt Wh13.out))
  have Sh14 := Lib.hid (blk_below Sh13.out hb (blk_lt Sh13.out))
  have Oh14 := Lib.hid (blk_below Oh13.out hb (blk_lt Oh13.out))
  clear HB13 Lh13 Gh13 Kh13 Wh13 Sh13 Oh13
  clear hb
  clear cK0
  go_upto_region 14 with fail
  have HB15 := Lib.hid (HB14.out.alloc HB14.out.size (.cells #[.int .i64 wl, .int .i64 0, .bool false, .bool false] 28 (0, 0)))
  have Xh15 := Lib.hid (heap_alloc_new w13 (.cells #[.int .i64 wl, .int .i64 0, .bool false, .bool false] 28 (0, 0)))
  have Lh15 := Lib.hid (blk_below Lh14.out ((Below.refl w13.heap.size w13).alloc (Nat.le_refl _) (.cells #[.int .i64 wl, .int .i64 0, .bool false, .bool false] 28 (0, 0))) (blk_lt Lh14.out))
  have Gh15 := Lib.hid (blk_below Gh14.out ((Below.refl w13.heap.size w13).alloc (Nat.le_refl _) (.cells #[.int .i64 wl, .int .i64 0, .bool false, .bool false] 28 (0, 0))) (blk_lt Gh14.out))
  have Kh15 := Lib.hid (blk_below Kh14.out ((Below.refl w13.heap.size w13).alloc (Nat.le_refl _) (.cells #[.int .i64 wl, .int .i64 0, .bool false, .bool false] 28 (0, 0))) (blk_lt Kh14.out))
  have Wh15 := Lib.hid (blk_below Wh14.out ((Below.refl w13.heap.size w13).alloc (Nat.le_refl _) (.cells #[.int .i64 wl, .int .i64 0, .bool false, .bool false] 28 (0, 0))) (blk_lt Wh14.out))
  have Sh15 := Lib.hid (blk_below Sh14.out ((Below.refl w13.heap.size w13).alloc (Nat.le_refl _) (.cells #[.int .i64 wl, .int .i64 0, .bool false, .bool false] 28 (0, 0))) (blk_lt Sh14.out))
  have Oh15 := Lib.hid (blk_below Oh14.out ((Below.refl w13.heap.size w13).alloc (Nat.le_refl _) (.cells #[.int .i64 wl, .int .i64 0, .bool false, .bool false] 28 (0, 0))) (blk_lt Oh14.out))
  clear HB14 Lh14 Gh14 Kh14 Wh14 Sh14 Oh14
  generalize w13.heap.size = bX at *
  generalize w13.alloc (.cells #[.int .i64 wl, .int .i64 0, .bool false, .bool false] 28 (0, 0)) = w14 at *
  have cK1 := rowN Kh15.out 1 (.int .i64 k.pos.hi) rfl
  have cL7 := rowN Lh15.out 7 (.int .i64 l.positions) rfl
  go_wp2_with (first | (refine wpList_load_rowW (by first | (go_simp; done) | rfl) 26 _ rfl _ rfl 26 _ _ _ Lh15.out undLk rfl infoLk ?_))
  refine (C6.out _).mono ?_
  rintro e w15 ⟨rfl, hb⟩
  have HB16 := Lib.hid (HB15.out.trans (hb.mono HB15.out.size))
  have Lh16 := Lib.hid (blk_below Lh15.out hb (blk_lt Lh15.out))
  have Gh16 := Lib.hid (blk_below Gh15.out hb (blk_lt Gh15.out))
  have Kh16 := Lib.hid (blk_below Kh15.out hb (blk_lt Kh15.out))
  have Wh16 := Lib.hid (blk_below Wh15.out hb (blk_lt Wh15.out))
  have Sh16 := Lib.hid (blk_below Sh15.out hb (blk_lt Sh15.out))
  have Oh16 := Lib.hid (blk_below Oh15.out hb (blk_lt Oh15.out))
  have Xh16 := Lib.hid (blk_below Xh15.out hb (blk_lt Xh15.out))
  clear HB15 Lh15 Gh15 Kh15 Wh15 Sh15 Oh15 Xh15
  clear hb
  clear cK1 cL7
  go_upto_region 15 with fail
  have HB17 := Lib.hid (HB16.out.alloc HB16.out.size (.cells #[.int .i64 wh, .int .i64 l.positions, .bool false, .bool false] 28 (0, 0)))
  have Yh17 := Lib.hid (heap_alloc_new w15 (.cells #[.int .i64 wh, .int .i64 l.positions, .bool false, .bool false] 28 (0, 0)))
  have Lh17 := Lib.hid (blk_below Lh16.out ((Below.refl w15.heap.size w15).alloc (Nat.le_refl _) (.cells #[.int .i64 wh, .int .i64 l.positions, .bool false, .bool false] 28 (0, 0))) (blk_lt Lh16.out))
  have Gh17 := Lib.hid (blk_below Gh16.out ((Below.refl w15.heap.size w15).alloc (Nat.le_refl _) (.cells #[.int .i64 wh, .int .i64 l.positions, .bool false, .bool false] 28 (0, 0))) (blk_lt Gh16.out))
  have Kh17 := Lib.hid (blk_below Kh16.out ((Below.refl w15.heap.size w15).alloc (Nat.le_refl _) (.cells #[.int .i64 wh, .int .i64 l.positions, .bool false, .bool false] 28 (0, 0))) (blk_lt Kh16.out))
  have Wh17 := Lib.hid (blk_below Wh16.out ((Below.refl w15.heap.size w15).alloc (Nat.le_refl _) (.cells #[.int .i64 wh, .int .i64 l.positions, .bool false, .bool false] 28 (0, 0))) (blk_lt Wh16.out))
  have Sh17 := Lib.hid (blk_below Sh16.out ((Below.refl w15.heap.size w15).alloc (Nat.le_refl _) (.cells #[.int .i64 wh, .int .i64 l.positions, .bool false, .bool false] 28 (0, 0))) (blk_lt Sh16.out))
  have Oh17 := Lib.hid (blk_below Oh16.out ((Below.refl w15.heap.size w15).alloc (Nat.le_refl _) (.cells #[.int .i64 wh, .int .i64 l.positions, .bool false, .bool false] 28 (0, 0))) (blk_lt Oh16.out))
  have Xh17 := Lib.hid (blk_below Xh16.out ((Below.refl w15.heap.size w15).alloc (Nat.le_refl _) (.cells #[.int .i64 wh, .int .i64 l.positions, .bool false, .bool false] 28 (0, 0))) (blk_lt Xh16.out))
  clear HB16 Lh16 Gh16 Kh16 Wh16 Sh16 Oh16 Xh16
  generalize w15.heap.size = bY at *
  generalize w15.alloc (.cells #[.int .i64 wh, .int .i64 l.positions, .bool false, .bool false] 28 (0, 0)) = w16 at *
  have u1 : 0 ≤ wl := E10.out
  have u2 : wh ≤ l.positions := E11.out
  have cW0 := rowN Wh17.out 0 (.int .i64 wl) rfl
  have cW1 := rowN Wh17.out 1 (.int .i64 wh) rfl
  have cW2 := rowN Wh17.out 2 (.int .i64 k.target) rfl
  have cX0 := rowN Xh17.out 0 (.int .i64 wl) rfl
  have cY0 := rowN Yh17.out 0 (.int .i64 wh) rfl
  have cL7 := rowN Lh17.out 7 (.int .i64 l.positions) rfl
  have cK2 := rowN Kh17.out 2 (.int .i64 k.target) rfl
  have cS2 := rowN Sh17.out 2 (.int .i64 k.target) rfl
  have q6 := eqS
  go_wp2_with (first | (refine wpList_load_range (by first | (go_simp; done) | rfl) 50 _ rfl _ _ rfl _ _ (range2 (rowN Wh17.out 3 (.int .i64 k.opened.lo) rfl) (rowN Wh17.out 4 (.int .i64 k.opened.hi) rfl)) undSp rfl infoSp ?_) | (refine wpList_load_range (by first | (go_simp; done) | rfl) 50 _ rfl _ _ rfl _ _ (range2 (rowN Kh17.out 3 (.int .i64 k.opened.lo) rfl) (rowN Kh17.out 4 (.int .i64 k.opened.hi) rfl)) undSp rfl infoSp ?_) | (refine wpList_load_range (by first | (go_simp; done) | rfl) 50 _ rfl _ _ rfl _ _ (range2 (rowN Sh17.out 3 (.int .i64 k.opened.lo) rfl) (rowN Sh17.out 4 (.int .i64 k.opened.hi) rfl)) undSp rfl infoSp ?_))
  go_ret
  exact ⟨rfl, HB17.out⟩
end Go.Proofs.Ytkoobkcmmfdlhaa
