/- gate.head and asks. -/
import Derived.Test.YtkoobkcmmfdlhaaVAt
import Derived.Test.YtkoobkcmmfdlhaaUMove
import Derived.Deep.RegionHeld3
namespace Go.Proofs.Ytkoobkcmmfdlhaa
open Go.RowKit
theorem I64.of {n : Int} (h : -9223372036854775808 ≤ n ∧ n ≤ 9223372036854775807) : I64 n := h
set_option maxRecDepth 100000 in
set_option maxHeartbeats 2000000 in
theorem head_any (l : LinkV) (v1 v2 v3 : Value) (a b : Int) (w : World) (ha : I64 a) :
    Calls Try.prog 42 #[.agg #[.string l.name, .int .i64 l.kind, .int .i64 l.src, .int .i64 l.dst, v1, v2, v3, .int .i64 l.positions, .int .i64 l.speed, .int .i64 l.leak, .int .i64 l.crest, .int .i64 l.num, .int .i64 l.den, .int .i64 l.prime, .int .i64 l.brk, .int .i64 l.backNum, .int .i64 l.backDen, .int .i64 l.delay], .int .i64 a, .int .i64 b] w (RetI (headN l a b) w) := by
  have HA := Lib.hid ha
  clear ha
  by_cases h : l.dst = -1
  · have HE : Hid (headN l a b = a) := Lib.hid (by unfold headN; rw [if_pos h])
    go_enter Try.func42, Try.ntmps42
    go_wp2_with fail
    go_ret
    refine retI_mk HE.out ?_
    (repeat (first | with_reducible exact Below.refl _ _ | with_reducible refine Below.setCell ?_ (by first | exact Nat.le_refl _ | (simp; done) | (simp; omega)) _ | with_reducible refine Below.alloc ?_ (by first | exact Nat.le_refl _ | (simp; done) | (simp; omega)) _ | with_reducible refine below_drewN ?_))
  · have HE : Hid (headN l a b = max 0 (subS a (scaleQ b l.backNum l.backDen))) := Lib.hid (by unfold headN; rw [if_neg h])
    have HQ : Hid (I64 (scaleQ b l.backNum l.backDen)) := Lib.hid (by have := scaleQ_bd b l.backNum l.backDen; exact ⟨by omega, by omega⟩)
    go_enter Try.func42, Try.ntmps42
    go_wp2_with fail
    refine (part_any b l.backNum l.backDen _).mono ?_
    rintro e w1 ⟨rfl, m, rfl⟩
    generalize scaleQ b l.backNum l.backDen = z at *
    go_wp2_with fail
    refine (sub_any a z _ HA.out HQ.out).mono ?_
    rintro e w1 ⟨rfl, rfl⟩
    generalize subS a z = y at *
    go_wp2_with fail
    go_ret
    refine retI_mk HE.out ?_
    (repeat (first | with_reducible exact Below.refl _ _ | with_reducible refine Below.setCell ?_ (by first | exact Nat.le_refl _ | (simp; done) | (simp; omega)) _ | with_reducible refine Below.alloc ?_ (by first | exact Nat.le_refl _ | (simp; done) | (simp; omega)) _ | with_reducible refine below_drewN ?_))
theorem exec_load_row {P : Program} {o : Oper} {ev : Operand → Value} {w : World} (ty : TypeId) (x : Operand) (ho : o.op = .load ty x)
    (g : Nat) (hx : ev x = .pointer (some ⟨g, 0, none⟩)) (t : TypeId) (cs : Array Value) (fr : Nat × Nat) (d : TypeDesc) (hg : w.heap[g]? = some (.cells cs t fr))
    (hu : P.underlying ty = some d) (hd : (match d with | .struct _ | .array _ _ => true | _ => false) = true) (hi : (P.info? ty).map (·.size) = some cs.size) :
    (execOp ev o).run P w = .ok (.value (.agg cs)) w := by
  unfold execOp
  simp only [ho, hx, Instr.loadAt, Instr.sureAddr, Sem.run_bind, Sem.run_pure, Result.andThen_ok, run_loadVar_row w g t ty cs fr d hg hu hd hi]
theorem undLk : Try.prog.underlying 26 = some (.struct (Try.prog.fieldsOf 26)) := by kernel_rfl
theorem infoLk : (Try.prog.info? 26).map (·.size) = some 18 := by kernel_rfl
theorem part_b (a n d : Int) (w : World) : Calls Try.prog 40 #[.int .i64 a, .int .i64 n, .int .i64 d] w fun e w' => e = .returned (.int .i64 (scaleQ a n d)) ∧ Below w.heap.size w w' := (part_any a n d w).mono fun _ _ ⟨h, m, hm⟩ => ⟨h, by rw [hm]; exact below_drewN (Below.refl _ _)⟩
theorem sub_b (a b : Int) (w : World) (ha : I64 a) (hb : I64 b) : Calls Try.prog 23 #[.int .i64 a, .int .i64 b] w fun e w' => e = .returned (.int .i64 (subS a b)) ∧ Below w.heap.size w w' := (sub_any a b w ha hb).mono fun _ _ ⟨h, hm⟩ => ⟨h, by rw [hm]; exact Below.refl _ _⟩
theorem add_b (a b : Int) (w : World) (ha : I64 a) (hb : I64 b) : Calls Try.prog 24 #[.int .i64 a, .int .i64 b] w fun e w' => e = .returned (.int .i64 (addS a b)) ∧ Below w.heap.size w w' := (add_any a b w ha hb).mono fun _ _ ⟨h, hm⟩ => ⟨h, by rw [hm]; exact Below.refl _ _⟩
theorem i64_scale (a n d : Int) : I64 (scaleQ a n d) := by have := scaleQ_bd a n d; exact ⟨by omega, by omega⟩
theorem stepL {w cur w' : World} {k0 : Nat} {A0 : Obj} {v0 v1 : Value} (h : cur.heap[k0]? = some A0 ∧ cur.cell? ⟨k0, 7, none⟩ = some v0 ∧ cur.cell? ⟨k0, 9, none⟩ = some v1 ∧ Below w.heap.size w cur) (hb : Below cur.heap.size cur w') : w'.heap[k0]? = some A0 ∧ w'.cell? ⟨k0, 7, none⟩ = some v0 ∧ w'.cell? ⟨k0, 9, none⟩ = some v1 ∧ Below w.heap.size w w' := by
  obtain ⟨a0, c0, c1, d⟩ := h
  exact ⟨blk_below a0 hb (blk_lt a0), (hb.cell (p := ⟨_, 7, none⟩) (blk_lt a0)).trans c0, (hb.cell (p := ⟨_, 9, none⟩) (blk_lt a0)).trans c1, d.trans (hb.mono d.size)⟩
theorem stepLN {w cur : World} {k0 : Nat} {A0 : Obj} {v0 v1 : Value} (h : cur.heap[k0]? = some A0 ∧ cur.cell? ⟨k0, 7, none⟩ = some v0 ∧ cur.cell? ⟨k0, 9, none⟩ = some v1 ∧ Below w.heap.size w cur) (n : Nat) : (cur.drewN n).heap[k0]? = some A0 ∧ (cur.drewN n).cell? ⟨k0, 7, none⟩ = some v0 ∧ (cur.drewN n).cell? ⟨k0, 9, none⟩ = some v1 ∧ Below w.heap.size w (cur.drewN n) := by
  obtain ⟨a0, c0, c1, d⟩ := h
  exact ⟨a0, c0, c1, below_drewN d⟩
theorem stepLA {w cur : World} {k0 : Nat} {A0 : Obj} {v0 v1 : Value} {o : Obj} (h : cur.heap[k0]? = some A0 ∧ cur.cell? ⟨k0, 7, none⟩ = some v0 ∧ cur.cell? ⟨k0, 9, none⟩ = some v1 ∧ Below w.heap.size w cur) : (cur.alloc o).heap[k0]? = some A0 ∧ (cur.alloc o).cell? ⟨k0, 7, none⟩ = some v0 ∧ (cur.alloc o).cell? ⟨k0, 9, none⟩ = some v1 ∧ Below w.heap.size w (cur.alloc o) := stepL h ((Below.refl _ _).alloc (Nat.le_refl _) o)
theorem stepLS {w cur : World} {b j : Nat} {x : Value} {k0 : Nat} {A0 : Obj} {v0 v1 : Value} (h : cur.heap[k0]? = some A0 ∧ cur.cell? ⟨k0, 7, none⟩ = some v0 ∧ cur.cell? ⟨k0, 9, none⟩ = some v1 ∧ Below w.heap.size w cur) (hle : w.heap.size ≤ b) (hn0 : k0 ≠ b) : (cur.setCell ⟨b, j, none⟩ x).heap[k0]? = some A0 ∧ (cur.setCell ⟨b, j, none⟩ x).cell? ⟨k0, 7, none⟩ = some v0 ∧ (cur.setCell ⟨b, j, none⟩ x).cell? ⟨k0, 9, none⟩ = some v1 ∧ Below w.heap.size w (cur.setCell ⟨b, j, none⟩ x) := by
  obtain ⟨a0, c0, c1, d⟩ := h
  have e0 : (cur.setCell ⟨b, j, none⟩ x).heap[k0]? = cur.heap[k0]? := heap_setCell_other _ _ _ _ hn0
  exact ⟨e0.trans a0, (by rw [← c0]; unfold World.cell?; rw [e0]), (by rw [← c1]; unfold World.cell?; rw [e0]), d.setCell hle _⟩
theorem stepLU {w cur : World} {k0 : Nat} {A0 : Obj} {v0 v1 : Value} {n : Nat} (h : (cur.drewN n).heap[k0]? = some A0 ∧ (cur.drewN n).cell? ⟨k0, 7, none⟩ = some v0 ∧ (cur.drewN n).cell? ⟨k0, 9, none⟩ = some v1 ∧ Below w.heap.size w (cur.drewN n)) : cur.heap[k0]? = some A0 ∧ cur.cell? ⟨k0, 7, none⟩ = some v0 ∧ cur.cell? ⟨k0, 9, none⟩ = some v1 ∧ Below w.heap.size w cur := by
  obtain ⟨a0, c0, c1, d⟩ := h
  exact ⟨a0, c0, c1, ⟨d.os, d.tape, d.output, d.size, d.block⟩⟩
theorem stepW {w cur w' : World} {k0 : Nat} {A0 : Obj} {v0 v1 v2 : Value} (h : cur.heap[k0]? = some A0 ∧ cur.cell? ⟨k0, 10, none⟩ = some v0 ∧ cur.cell? ⟨k0, 11, none⟩ = some v1 ∧ cur.cell? ⟨k0, 12, none⟩ = some v2 ∧ Below w.heap.size w cur) (hb : Below cur.heap.size cur w') : w'.heap[k0]? = some A0 ∧ w'.cell? ⟨k0, 10, none⟩ = some v0 ∧ w'.cell? ⟨k0, 11, none⟩ = some v1 ∧ w'.cell? ⟨k0, 12, none⟩ = some v2 ∧ Below w.heap.size w w' := by
  obtain ⟨a0, c0, c1, c2, d⟩ := h
  exact ⟨blk_below a0 hb (blk_lt a0), (hb.cell (p := ⟨_, 10, none⟩) (blk_lt a0)).trans c0, (hb.cell (p := ⟨_, 11, none⟩) (blk_lt a0)).trans c1, (hb.cell (p := ⟨_, 12, none⟩) (blk_lt a0)).trans c2, d.trans (hb.mono d.size)⟩
theorem stepWN {w cur : World} {k0 : Nat} {A0 : Obj} {v0 v1 v2 : Value} (h : cur.heap[k0]? = some A0 ∧ cur.cell? ⟨k0, 10, none⟩ = some v0 ∧ cur.cell? ⟨k0, 11, none⟩ = some v1 ∧ cur.cell? ⟨k0, 12, none⟩ = some v2 ∧ Below w.heap.size w cur) (n : Nat) : (cur.drewN n).heap[k0]? = some A0 ∧ (cur.drewN n).cell? ⟨k0, 10, none⟩ = some v0 ∧ (cur.drewN n).cell? ⟨k0, 11, none⟩ = some v1 ∧ (cur.drewN n).cell? ⟨k0, 12, none⟩ = some v2 ∧ Below w.heap.size w (cur.drewN n) := by
  obtain ⟨a0, c0, c1, c2, d⟩ := h
  exact ⟨a0, c0, c1, c2, below_drewN d⟩
theorem stepWA {w cur : World} {k0 : Nat} {A0 : Obj} {v0 v1 v2 : Value} {o : Obj} (h : cur.heap[k0]? = some A0 ∧ cur.cell? ⟨k0, 10, none⟩ = some v0 ∧ cur.cell? ⟨k0, 11, none⟩ = some v1 ∧ cur.cell? ⟨k0, 12, none⟩ = some v2 ∧ Below w.heap.size w cur) : (cur.alloc o).heap[k0]? = some A0 ∧ (cur.alloc o).cell? ⟨k0, 10, none⟩ = some v0 ∧ (cur.alloc o).cell? ⟨k0, 11, none⟩ = some v1 ∧ (cur.alloc o).cell? ⟨k0, 12, none⟩ = some v2 ∧ Below w.heap.size w (cur.alloc o) := stepW h ((Below.refl _ _).alloc (Nat.le_refl _) o)
theorem stepWS {w cur : World} {b j : Nat} {x : Value} {k0 : Nat} {A0 : Obj} {v0 v1 v2 : Value} (h : cur.heap[k0]? = some A0 ∧ cur.cell? ⟨k0, 10, none⟩ = some v0 ∧ cur.cell? ⟨k0, 11, none⟩ = some v1 ∧ cur.cell? ⟨k0, 12, none⟩ = some v2 ∧ Below w.heap.size w cur) (hle : w.heap.size ≤ b) (hn0 : k0 ≠ b) : (cur.setCell ⟨b, j, none⟩ x).heap[k0]? = some A0 ∧ (cur.setCell ⟨b, j, none⟩ x).cell? ⟨k0, 10, none⟩ = some v0 ∧ (cur.setCell ⟨b, j, none⟩ x).cell? ⟨k0, 11, none⟩ = some v1 ∧ (cur.setCell ⟨b, j, none⟩ x).cell? ⟨k0, 12, none⟩ = some v2 ∧ Below w.heap.size w (cur.setCell ⟨b, j, none⟩ x) := by
  obtain ⟨a0, c0, c1, c2, d⟩ := h
  have e0 : (cur.setCell ⟨b, j, none⟩ x).heap[k0]? = cur.heap[k0]? := heap_setCell_other _ _ _ _ hn0
  exact ⟨e0.trans a0, (by rw [← c0]; unfold World.cell?; rw [e0]), (by rw [← c1]; unfold World.cell?; rw [e0]), (by rw [← c2]; unfold World.cell?; rw [e0]), d.setCell hle _⟩
theorem stepWU {w cur : World} {k0 : Nat} {A0 : Obj} {v0 v1 v2 : Value} {n : Nat} (h : (cur.drewN n).heap[k0]? = some A0 ∧ (cur.drewN n).cell? ⟨k0, 10, none⟩ = some v0 ∧ (cur.drewN n).cell? ⟨k0, 11, none⟩ = some v1 ∧ (cur.drewN n).cell? ⟨k0, 12, none⟩ = some v2 ∧ Below w.heap.size w (cur.drewN n)) : cur.heap[k0]? = some A0 ∧ cur.cell? ⟨k0, 10, none⟩ = some v0 ∧ cur.cell? ⟨k0, 11, none⟩ = some v1 ∧ cur.cell? ⟨k0, 12, none⟩ = some v2 ∧ Below w.heap.size w cur := by
  obtain ⟨a0, c0, c1, c2, d⟩ := h
  exact ⟨a0, c0, c1, c2, ⟨d.os, d.tape, d.output, d.size, d.block⟩⟩
def AskPost (l : LinkV) (p : Int) (o : Bool) (c : List PointV) (a b : Int) (w : World) (e : Ending) (w' : World) : Prop := RetI (asksN l p o c a b) w e w'
set_option maxRecDepth 100000 in
set_option maxHeartbeats 4000000 in
theorem asks_0 (l : LinkV) (v1 v2 v3 : Value) (p : Int) (o : Bool) (c : List PointV) (vc : Value) (a b : Int) (w : World) (hk : l.kind = 0) (ha : I64 a) (hl : I64 l.leak) (hc : LArg RPoint 2 vc c w) :
    Calls Try.prog 26 #[.agg #[.string l.name, .int .i64 l.kind, .int .i64 l.src, .int .i64 l.dst, v1, v2, v3, .int .i64 l.positions, .int .i64 l.speed, .int .i64 l.leak, .int .i64 l.crest, .int .i64 l.num, .int .i64 l.den, .int .i64 l.prime, .int .i64 l.brk, .int .i64 l.backNum, .int .i64 l.backDen, .int .i64 l.delay], .int .i64 p, .bool o, vc, .int .i64 a, .int .i64 b] w (RetI (asksN l p o c a b) w) := by
  have HA := Lib.hid ha
  have HLK := Lib.hid hl
  have HC := Lib.hid hc
  have HE := Lib.hid (asks_k0 hk p o c a b)
  have k0 : (l.kind == 0) = true := by rw [hk]; rfl
  clear ha hl hc hk
  go_enter Try.func26, Try.ntmps26
  go_upto_region 7 with fail
  have HB1 := Lib.hid ((Below.refl w.heap.size w).alloc (Nat.le_refl _) (.cells #[.string l.name, .int .i64 l.kind, .int .i64 l.src, .int .i64 l.dst, v1, v2, v3, .int .i64 l.positions, .int .i64 l.speed, .int .i64 l.leak, .int .i64 l.crest, .int .i64 l.num, .int .i64 l.den, .int .i64 l.prime, .int .i64 l.brk, .int .i64 l.backNum, .int .i64 l.backDen, .int .i64 l.delay] 26))
  have Lh1 := Lib.hid (heap_alloc_new w (.cells #[.string l.name, .int .i64 l.kind, .int .i64 l.src, .int .i64 l.dst, v1, v2, v3, .int .i64 l.positions, .int .i64 l.speed, .int .i64 l.leak, .int .i64 l.crest, .int .i64 l.num, .int .i64 l.den, .int .i64 l.prime, .int .i64 l.brk, .int .i64 l.backNum, .int .i64 l.backDen, .int .i64 l.delay] 26))
  generalize w.alloc (.cells #[.string l.name, .int .i64 l.kind, .int .i64 l.src, .int .i64 l.dst, v1, v2, v3, .int .i64 l.positions, .int .i64 l.speed, .int .i64 l.leak, .int .i64 l.crest, .int .i64 l.num, .int .i64 l.den, .int .i64 l.prime, .int .i64 l.brk, .int .i64 l.backNum, .int .i64 l.backDen, .int .i64 l.delay] 26) = w1 at *
  have cL0 : w1.cell? ⟨w.heap.size, 0, none⟩ = some (.string l.name) := (cell_of_row _ _ _ _ _ _ Lh1.out).trans rfl
  have cL1 : w1.cell? ⟨w.heap.size, 1, none⟩ = some (.int .i64 l.kind) := (cell_of_row _ _ _ _ _ _ Lh1.out).trans rfl
  have cL2 : w1.cell? ⟨w.heap.size, 2, none⟩ = some (.int .i64 l.src) := (cell_of_row _ _ _ _ _ _ Lh1.out).trans rfl
  have cL3 : w1.cell? ⟨w.heap.size, 3, none⟩ = some (.int .i64 l.dst) := (cell_of_row _ _ _ _ _ _ Lh1.out).trans rfl
  have cL4 : w1.cell? ⟨w.heap.size, 4, none⟩ = some (v1) := (cell_of_row _ _ _ _ _ _ Lh1.out).trans rfl
  have cL5 : w1.cell? ⟨w.heap.size, 5, none⟩ = some (v2) := (cell_of_row _ _ _ _ _ _ Lh1.out).trans rfl
  have cL6 : w1.cell? ⟨w.heap.size, 6, none⟩ = some (v3) := (cell_of_row _ _ _ _ _ _ Lh1.out).trans rfl
  have cL7 : w1.cell? ⟨w.heap.size, 7, none⟩ = some (.int .i64 l.positions) := (cell_of_row _ _ _ _ _ _ Lh1.out).trans rfl
  have cL8 : w1.cell? ⟨w.heap.size, 8, none⟩ = some (.int .i64 l.speed) := (cell_of_row _ _ _ _ _ _ Lh1.out).trans rfl
  have cL9 : w1.cell? ⟨w.heap.size, 9, none⟩ = some (.int .i64 l.leak) := (cell_of_row _ _ _ _ _ _ Lh1.out).trans rfl
  have cL10 : w1.cell? ⟨w.heap.size, 10, none⟩ = some (.int .i64 l.crest) := (cell_of_row _ _ _ _ _ _ Lh1.out).trans rfl
  have cL11 : w1.cell? ⟨w.heap.size, 11, none⟩ = some (.int .i64 l.num) := (cell_of_row _ _ _ _ _ _ Lh1.out).trans rfl
  have cL12 : w1.cell? ⟨w.heap.size, 12, none⟩ = some (.int .i64 l.den) := (cell_of_row _ _ _ _ _ _ Lh1.out).trans rfl
  have cL13 : w1.cell? ⟨w.heap.size, 13, none⟩ = some (.int .i64 l.prime) := (cell_of_row _ _ _ _ _ _ Lh1.out).trans rfl
  have cL14 : w1.cell? ⟨w.heap.size, 14, none⟩ = some (.int .i64 l.brk) := (cell_of_row _ _ _ _ _ _ Lh1.out).trans rfl
  have cL15 : w1.cell? ⟨w.heap.size, 15, none⟩ = some (.int .i64 l.backNum) := (cell_of_row _ _ _ _ _ _ Lh1.out).trans rfl
  have cL16 : w1.cell? ⟨w.heap.size, 16, none⟩ = some (.int .i64 l.backDen) := (cell_of_row _ _ _ _ _ _ Lh1.out).trans rfl
  have cL17 : w1.cell? ⟨w.heap.size, 17, none⟩ = some (.int .i64 l.delay) := (cell_of_row _ _ _ _ _ _ Lh1.out).trans rfl
  clear cL0 cL1 cL2 cL3 cL4 cL5 cL6 cL7 cL8 cL9 cL10 cL11 cL12 cL13 cL14 cL15 cL16 cL17
  refine wp_region_noPanic ?_
  refine wp_region_held_drew (S := fun w' => w'.heap[w.heap.size]? = some (.cells #[.string l.name, .int .i64 l.kind, .int .i64 l.src, .int .i64 l.dst, v1, v2, v3, .int .i64 l.positions, .int .i64 l.speed, .int .i64 l.leak, .int .i64 l.crest, .int .i64 l.num, .int .i64 l.den, .int .i64 l.prime, .int .i64 l.brk, .int .i64 l.backNum, .int .i64 l.backDen, .int .i64 l.delay] 26 (0, 0)) ∧ w'.cell? ⟨w.heap.size, 7, none⟩ = some (.int .i64 l.positions) ∧ w'.cell? ⟨w.heap.size, 9, none⟩ = some (.int .i64 l.leak) ∧ Below w.heap.size w w') (by kernel_rfl) (stepL ⟨Lh1.out, (cell_of_row _ _ _ _ _ _ Lh1.out).trans rfl, (cell_of_row _ _ _ _ _ _ Lh1.out).trans rfl, HB1.out⟩ (Below.refl _ _).drew) (fun hHeld => ?_)
  refine' wpAnyH_take (i := 0) (v := _) (by simp only [List.getElem?_toArray, List.getElem?_cons_zero]; exact rfl) (by kernel_rfl) (by kernel_rfl) (by kernel_rfl) (fun _ _ _ h => h) (Or.inl ⟨by rfl, ?y0x1⟩) hHeld ?r0x1
  case y0x1 => (intro w hSw; (try dsimp only at hSw); go_simp; try with_reducible rfl)
  try simp only [Act.put, List.setIfInBounds_toArray, List.set_cons_zero, List.set_cons_succ]
  refine' wpAnyH_take (i := 1) (v := _) (by simp only [List.getElem?_toArray, List.getElem?_cons_succ, List.getElem?_cons_zero]; exact rfl) (by kernel_rfl) (by kernel_rfl) (by kernel_rfl) (fun _ _ _ h => h) (Or.inl ⟨by rfl, ?y1x2⟩) hHeld ?r1x2
  case y1x2 => (intro w hSw; refine exec_load_row 26 ?_ ?_ _ ?_ 26 _ _ _ (hSw.1) undLk rfl infoLk; rotate_left 1; exact rfl; exact rfl)
  try simp only [Act.put, List.setIfInBounds_toArray, List.set_cons_zero, List.set_cons_succ]
  refine' wpAnyH_take (i := 2) (v := _) (by simp only [List.getElem?_toArray, List.getElem?_cons_succ, List.getElem?_cons_zero]; exact rfl) (by kernel_rfl) (by kernel_rfl) (by kernel_rfl) (fun _ _ _ h => h) (Or.inl ⟨by rfl, ?y2x3⟩) hHeld ?r2x3
  case y2x3 => (intro w hSw; (try dsimp only at hSw); go_simp; try with_reducible rfl)
  try simp only [Act.put, List.setIfInBounds_toArray, List.set_cons_zero, List.set_cons_succ]
  refine' wpAnyH_take (i := 3) (v := _) (by simp only [List.getElem?_toArray, List.getElem?_cons_succ, List.getElem?_cons_zero]; exact rfl) (by kernel_rfl) (by kernel_rfl) (by kernel_rfl) (fun _ _ _ h => h) (Or.inl ⟨by rfl, ?y3x4⟩) hHeld ?r3x4
  case y3x4 => (intro w hSw; (try dsimp only at hSw); go_simp; try with_reducible rfl)
  try simp only [Act.put, List.setIfInBounds_toArray, List.set_cons_zero, List.set_cons_succ]
  refine' wpAnyH_take (i := 6) (v := _) (by simp only [List.getElem?_toArray, List.getElem?_cons_succ, List.getElem?_cons_zero]; exact rfl) (by kernel_rfl) (by kernel_rfl) (by kernel_rfl) (fun _ _ _ h => h) (Or.inl ⟨by rfl, ?y6x5⟩) hHeld ?r6x5
  case y6x5 => (intro w hSw; (try dsimp only at hSw); go_simp; try with_reducible rfl)
  try simp only [Act.put, List.setIfInBounds_toArray, List.set_cons_zero, List.set_cons_succ]
  refine' wpAnyH_take (i := 7) (v := _) (by simp only [List.getElem?_toArray, List.getElem?_cons_succ, List.getElem?_cons_zero]; exact rfl) (by kernel_rfl) (by kernel_rfl) (by kernel_rfl) (fun _ _ _ h => h) (Or.inl ⟨by rfl, ?y7x6⟩) hHeld ?r7x6
  case y7x6 => (intro w hSw; (try dsimp only at hSw); go_simp; try with_reducible rfl)
  try simp only [Act.put, List.setIfInBounds_toArray, List.set_cons_zero, List.set_cons_succ]
  refine' wpAnyH_take (i := 8) (v := _) (by simp only [List.getElem?_toArray, List.getElem?_cons_succ, List.getElem?_cons_zero]; exact rfl) (by kernel_rfl) (by kernel_rfl) (by kernel_rfl) (fun _ _ _ h => h) (Or.inl ⟨by rfl, ?y8x7⟩) hHeld ?r8x7
  case y8x7 => (intro w hSw; (try dsimp only at hSw); go_simp; try with_reducible rfl)
  try simp only [Act.put, List.setIfInBounds_toArray, List.set_cons_zero, List.set_cons_succ]
  refine' wpAnyH_take (i := 10) (v := _) (by simp only [List.getElem?_toArray, List.getElem?_cons_succ, List.getElem?_cons_zero]; exact rfl) (by kernel_rfl) (by kernel_rfl) (by kernel_rfl) (fun _ _ _ h => h) (Or.inl ⟨by rfl, ?y10x8⟩) hHeld ?r10x8
  case y10x8 => (intro w hSw; (try dsimp only at hSw); go_simp; try with_reducible rfl)
  try simp only [Act.put, List.setIfInBounds_toArray, List.set_cons_zero, List.set_cons_succ]
  refine' wpAnyH_take (i := 11) (v := _) (by simp only [List.getElem?_toArray, List.getElem?_cons_succ, List.getElem?_cons_zero]; exact rfl) (by kernel_rfl) (by kernel_rfl) (by kernel_rfl) (fun _ _ _ h => h) (Or.inl ⟨by rfl, ?y11x9⟩) hHeld ?r11x9
  case y11x9 => (intro w hSw; (try dsimp only at hSw); go_simp; try with_reducible rfl)
  try simp only [Act.put, List.setIfInBounds_toArray, List.set_cons_zero, List.set_cons_succ]
  refine wpAnyH_ready (rs := [4]) (by kernel_rfl) (by simp) ?_
  refine AllReadyH.cons (by simp only [List.getElem?_toArray, List.getElem?_cons_succ, List.getElem?_cons_zero]; exact rfl) (fun K hK => ?_) AllReadyH.nil
  go_simp
  refine (head_any l v1 v2 v3 a b _ HA.out).mono ?_
  rintro e w' ⟨rfl, hb⟩
  refine hK.out _ _ (stepL hHeld hb) (fun hHeld => ?_)
  clear hK K hb
  try simp only [Act.put, List.setIfInBounds_toArray, List.set_cons_zero, List.set_cons_succ]
  refine wpAnyH_ready (rs := [5]) (by kernel_rfl) (by simp) ?_
  refine AllReadyH.cons (by simp only [List.getElem?_toArray, List.getElem?_cons_succ, List.getElem?_cons_zero]; exact rfl) (fun K hK => ?_) AllReadyH.nil
  go_simp
  refine (at_any c vc (headN l a b) _ (HC.out.below stays_Point hHeld.2.2.2)).mono ?_
  rintro e w' ⟨rfl, hb⟩
  refine hK.out _ _ (stepL hHeld hb) (fun hHeld => ?_)
  clear hK K hb
  try simp only [Act.put, List.setIfInBounds_toArray, List.set_cons_zero, List.set_cons_succ]
  refine wpAnyH_ready (rs := [9]) (by kernel_rfl) (by simp) ?_
  refine AllReadyH.cons (by simp only [List.getElem?_toArray, List.getElem?_cons_succ, List.getElem?_cons_zero]; exact rfl) (fun K hK => ?_) AllReadyH.nil
  go_simp
  refine (part_b _ _ _ _).mono ?_
  rintro e w' ⟨rfl, hb⟩
  refine hK.out _ _ (stepL hHeld hb) (fun hHeld => ?_)
  clear hK K hb
  try simp only [Act.put, List.setIfInBounds_toArray, List.set_cons_zero, List.set_cons_succ]
  refine wpAnyH_ready (rs := [12]) (by kernel_rfl) (by simp) ?_
  refine AllReadyH.cons (by simp only [List.getElem?_toArray, List.getElem?_cons_succ, List.getElem?_cons_zero]; exact rfl) (fun K hK => ?_) AllReadyH.nil
  go_simp
  refine (add_b _ _ _ (i64_scale _ _ _) HLK.out).mono ?_
  rintro e w' ⟨rfl, hb⟩
  refine hK.out _ _ (stepL hHeld hb) (fun hHeld => ?_)
  clear hK K hb
  try simp only [Act.put, List.setIfInBounds_toArray, List.set_cons_zero, List.set_cons_succ]
  refine' wpAnyH_take (i := 13) (v := _) (by simp only [List.getElem?_toArray, List.getElem?_cons_succ, List.getElem?_cons_zero]; exact rfl) (by kernel_rfl) (by kernel_rfl) (by kernel_rfl) (fun _ _ _ h => h) (Or.inl ⟨by rfl, ?y13x10⟩) hHeld ?r13x10
  case y13x10 => (intro w hSw; (try dsimp only at hSw); go_simp; try with_reducible rfl)
  try simp only [Act.put, List.setIfInBounds_toArray, List.set_cons_zero, List.set_cons_succ]
  refine wpAnyH_done (by kernel_rfl) ?_ _
  refine NoPanic.normal ?_
  have HB9 := Lib.hid hHeld.2.2.2
  go_wp2_with fail
  go_ret
  exact retI_mk HE.out HB9.out
set_option maxRecDepth 100000 in
set_option maxHeartbeats 4000000 in
theorem asks_2 (l : LinkV) (v1 v2 v3 : Value) (p : Int) (o : Bool) (c : List PointV) (vc : Value) (a b : Int) (w : World) (hk : l.kind = 2) :
    Calls Try.prog 26 #[.agg #[.string l.name, .int .i64 l.kind, .int .i64 l.src, .int .i64 l.dst, v1, v2, v3, .int .i64 l.positions, .int .i64 l.speed, .int .i64 l.leak, .int .i64 l.crest, .int .i64 l.num, .int .i64 l.den, .int .i64 l.prime, .int .i64 l.brk, .int .i64 l.backNum, .int .i64 l.backDen, .int .i64 l.delay], .int .i64 p, .bool o, vc, .int .i64 a, .int .i64 b] w (RetI (asksN l p o c a b) w) := by
  have HE := Lib.hid (asks_k2 hk p o c a b)
  have k0 : (l.kind == 0) = false := by rw [hk]; rfl
  have k2 : (l.kind == 2) = true := by rw [hk]; rfl
  clear hk
  go_enter Try.func26, Try.ntmps26
  go_wp2_with fail
  refine (part_any _ _ _ _).mono ?_
  rintro e w1 ⟨rfl, m, rfl⟩
  go_wp2_with fail
  go_ret
  refine retI_mk HE.out ?_
  (repeat (first | with_reducible exact Below.refl _ _ | with_reducible refine Below.setCell ?_ (by first | exact Nat.le_refl _ | (simp; done) | (simp; omega)) _ | with_reducible refine Below.alloc ?_ (by first | exact Nat.le_refl _ | (simp; done) | (simp; omega)) _ | with_reducible refine below_drewN ?_))
set_option maxRecDepth 100000 in
set_option maxHeartbeats 4000000 in
theorem asks_3 (l : LinkV) (v1 v2 v3 : Value) (p : Int) (o : Bool) (c : List PointV) (vc : Value) (a b : Int) (w : World) (hk : l.kind = 3) :
    Calls Try.prog 26 #[.agg #[.string l.name, .int .i64 l.kind, .int .i64 l.src, .int .i64 l.dst, v1, v2, v3, .int .i64 l.positions, .int .i64 l.speed, .int .i64 l.leak, .int .i64 l.crest, .int .i64 l.num, .int .i64 l.den, .int .i64 l.prime, .int .i64 l.brk, .int .i64 l.backNum, .int .i64 l.backDen, .int .i64 l.delay], .int .i64 p, .bool o, vc, .int .i64 a, .int .i64 b] w (RetI (asksN l p o c a b) w) := by
  have HE := Lib.hid (asks_k3 hk p o c a b)
  have k0 : (l.kind == 0) = false := by rw [hk]; rfl
  have k2 : (l.kind == 2) = false := by rw [hk]; rfl
  have k3 : (l.kind == 3) = true := by rw [hk]; rfl
  clear hk
  cases o
  · go_enter Try.func26, Try.ntmps26
    go_wp2_with fail
    go_ret
    refine retI_mk HE.out ?_
    (repeat (first | with_reducible exact Below.refl _ _ | with_reducible refine Below.setCell ?_ (by first | exact Nat.le_refl _ | (simp; done) | (simp; omega)) _ | with_reducible refine Below.alloc ?_ (by first | exact Nat.le_refl _ | (simp; done) | (simp; omega)) _ | with_reducible refine below_drewN ?_))
  · go_enter Try.func26, Try.ntmps26
    go_wp2_with fail
    refine (part_any _ _ _ _).mono ?_
    rintro e w1 ⟨rfl, m, rfl⟩
    go_wp2_with fail
    go_ret
    refine retI_mk HE.out ?_
    (repeat (first | with_reducible exact Below.refl _ _ | with_reducible refine Below.setCell ?_ (by first | exact Nat.le_refl _ | (simp; done) | (simp; omega)) _ | with_reducible refine Below.alloc ?_ (by first | exact Nat.le_refl _ | (simp; done) | (simp; omega)) _ | with_reducible refine below_drewN ?_))
set_option maxRecDepth 100000 in
set_option maxHeartbeats 4000000 in
theorem asks_4 (l : LinkV) (v1 v2 v3 : Value) (p : Int) (o : Bool) (c : List PointV) (vc : Value) (a b : Int) (w : World) (hk : l.kind = 4) :
    Calls Try.prog 26 #[.agg #[.string l.name, .int .i64 l.kind, .int .i64 l.src, .int .i64 l.dst, v1, v2, v3, .int .i64 l.positions, .int .i64 l.speed, .int .i64 l.leak, .int .i64 l.crest, .int .i64 l.num, .int .i64 l.den, .int .i64 l.prime, .int .i64 l.brk, .int .i64 l.backNum, .int .i64 l.backDen, .int .i64 l.delay], .int .i64 p, .bool o, vc, .int .i64 a, .int .i64 b] w (RetI (asksN l p o c a b) w) := by
  have HE := Lib.hid (asks_k4 hk p o c a b)
  have k0 : (l.kind == 0) = false := by rw [hk]; rfl
  have k2 : (l.kind == 2) = false := by rw [hk]; rfl
  have k3 : (l.kind == 3) = false := by rw [hk]; rfl
  have k5 : (l.kind == 5) = false := by rw [hk]; rfl
  have k1 : (l.kind == 1) = false := by rw [hk]; rfl
  clear hk
  go_enter Try.func26, Try.ntmps26
  go_wp2_with fail
  go_ret
  refine retI_mk HE.out ?_
  (repeat (first | with_reducible exact Below.refl _ _ | with_reducible refine Below.setCell ?_ (by first | exact Nat.le_refl _ | (simp; done) | (simp; omega)) _ | with_reducible refine Below.alloc ?_ (by first | exact Nat.le_refl _ | (simp; done) | (simp; omega)) _ | with_reducible refine below_drewN ?_))
set_option maxRecDepth 100000 in
set_option maxHeartbeats 4000000 in
theorem asks_1 (l : LinkV) (v1 v2 v3 : Value) (p : Int) (o : Bool) (c : List PointV) (vc : Value) (a b : Int) (w : World) (hk : l.kind = 1) (ha : I64 a) (hl : I64 l.crest) :
    Calls Try.prog 26 #[.agg #[.string l.name, .int .i64 l.kind, .int .i64 l.src, .int .i64 l.dst, v1, v2, v3, .int .i64 l.positions, .int .i64 l.speed, .int .i64 l.leak, .int .i64 l.crest, .int .i64 l.num, .int .i64 l.den, .int .i64 l.prime, .int .i64 l.brk, .int .i64 l.backNum, .int .i64 l.backDen, .int .i64 l.delay], .int .i64 p, .bool o, vc, .int .i64 a, .int .i64 b] w (RetI (asksN l p o c a b) w) := by
  have HA := Lib.hid ha
  have HLC := Lib.hid hl
  have HE := Lib.hid (asks_k1 hk p o c a b)
  have k0 : (l.kind == 0) = false := by rw [hk]; rfl
  have k2 : (l.kind == 2) = false := by rw [hk]; rfl
  have k3 : (l.kind == 3) = false := by rw [hk]; rfl
  have k5 : (l.kind == 5) = false := by rw [hk]; rfl
  have k1 : (l.kind == 1) = true := by rw [hk]; rfl
  clear ha hl hk
  go_enter Try.func26, Try.ntmps26
  go_upto_region 13 with fail
  have HB1 := Lib.hid ((Below.refl w.heap.size w).alloc (Nat.le_refl _) (.cells #[.string l.name, .int .i64 l.kind, .int .i64 l.src, .int .i64 l.dst, v1, v2, v3, .int .i64 l.positions, .int .i64 l.speed, .int .i64 l.leak, .int .i64 l.crest, .int .i64 l.num, .int .i64 l.den, .int .i64 l.prime, .int .i64 l.brk, .int .i64 l.backNum, .int .i64 l.backDen, .int .i64 l.delay] 26))
  have Lh1 := Lib.hid (heap_alloc_new w (.cells #[.string l.name, .int .i64 l.kind, .int .i64 l.src, .int .i64 l.dst, v1, v2, v3, .int .i64 l.positions, .int .i64 l.speed, .int .i64 l.leak, .int .i64 l.crest, .int .i64 l.num, .int .i64 l.den, .int .i64 l.prime, .int .i64 l.brk, .int .i64 l.backNum, .int .i64 l.backDen, .int .i64 l.delay] 26))
  generalize w.alloc (.cells #[.string l.name, .int .i64 l.kind, .int .i64 l.src, .int .i64 l.dst, v1, v2, v3, .int .i64 l.positions, .int .i64 l.speed, .int .i64 l.leak, .int .i64 l.crest, .int .i64 l.num, .int .i64 l.den, .int .i64 l.prime, .int .i64 l.brk, .int .i64 l.backNum, .int .i64 l.backDen, .int .i64 l.delay] 26) = w1 at *
  have cL0 : w1.cell? ⟨w.heap.size, 0, none⟩ = some (.string l.name) := (cell_of_row _ _ _ _ _ _ Lh1.out).trans rfl
  have cL1 : w1.cell? ⟨w.heap.size, 1, none⟩ = some (.int .i64 l.kind) := (cell_of_row _ _ _ _ _ _ Lh1.out).trans rfl
  have cL2 : w1.cell? ⟨w.heap.size, 2, none⟩ = some (.int .i64 l.src) := (cell_of_row _ _ _ _ _ _ Lh1.out).trans rfl
  have cL3 : w1.cell? ⟨w.heap.size, 3, none⟩ = some (.int .i64 l.dst) := (cell_of_row _ _ _ _ _ _ Lh1.out).trans rfl
  have cL4 : w1.cell? ⟨w.heap.size, 4, none⟩ = some (v1) := (cell_of_row _ _ _ _ _ _ Lh1.out).trans rfl
  have cL5 : w1.cell? ⟨w.heap.size, 5, none⟩ = some (v2) := (cell_of_row _ _ _ _ _ _ Lh1.out).trans rfl
  have cL6 : w1.cell? ⟨w.heap.size, 6, none⟩ = some (v3) := (cell_of_row _ _ _ _ _ _ Lh1.out).trans rfl
  have cL7 : w1.cell? ⟨w.heap.size, 7, none⟩ = some (.int .i64 l.positions) := (cell_of_row _ _ _ _ _ _ Lh1.out).trans rfl
  have cL8 : w1.cell? ⟨w.heap.size, 8, none⟩ = some (.int .i64 l.speed) := (cell_of_row _ _ _ _ _ _ Lh1.out).trans rfl
  have cL9 : w1.cell? ⟨w.heap.size, 9, none⟩ = some (.int .i64 l.leak) := (cell_of_row _ _ _ _ _ _ Lh1.out).trans rfl
  have cL10 : w1.cell? ⟨w.heap.size, 10, none⟩ = some (.int .i64 l.crest) := (cell_of_row _ _ _ _ _ _ Lh1.out).trans rfl
  have cL11 : w1.cell? ⟨w.heap.size, 11, none⟩ = some (.int .i64 l.num) := (cell_of_row _ _ _ _ _ _ Lh1.out).trans rfl
  have cL12 : w1.cell? ⟨w.heap.size, 12, none⟩ = some (.int .i64 l.den) := (cell_of_row _ _ _ _ _ _ Lh1.out).trans rfl
  have cL13 : w1.cell? ⟨w.heap.size, 13, none⟩ = some (.int .i64 l.prime) := (cell_of_row _ _ _ _ _ _ Lh1.out).trans rfl
  have cL14 : w1.cell? ⟨w.heap.size, 14, none⟩ = some (.int .i64 l.brk) := (cell_of_row _ _ _ _ _ _ Lh1.out).trans rfl
  have cL15 : w1.cell? ⟨w.heap.size, 15, none⟩ = some (.int .i64 l.backNum) := (cell_of_row _ _ _ _ _ _ Lh1.out).trans rfl
  have cL16 : w1.cell? ⟨w.heap.size, 16, none⟩ = some (.int .i64 l.backDen) := (cell_of_row _ _ _ _ _ _ Lh1.out).trans rfl
  have cL17 : w1.cell? ⟨w.heap.size, 17, none⟩ = some (.int .i64 l.delay) := (cell_of_row _ _ _ _ _ _ Lh1.out).trans rfl
  clear cL0 cL1 cL2 cL3 cL4 cL5 cL6 cL7 cL8 cL9 cL10 cL11 cL12 cL13 cL14 cL15 cL16 cL17
  have HS0 : Hid (w1.heap[w.heap.size]? = some (.cells #[.string l.name, .int .i64 l.kind, .int .i64 l.src, .int .i64 l.dst, v1, v2, v3, .int .i64 l.positions, .int .i64 l.speed, .int .i64 l.leak, .int .i64 l.crest, .int .i64 l.num, .int .i64 l.den, .int .i64 l.prime, .int .i64 l.brk, .int .i64 l.backNum, .int .i64 l.backDen, .int .i64 l.delay] 26) ∧ w1.cell? ⟨w.heap.size, 10, none⟩ = some (.int .i64 l.crest) ∧ w1.cell? ⟨w.heap.size, 11, none⟩ = some (.int .i64 l.num) ∧ w1.cell? ⟨w.heap.size, 12, none⟩ = some (.int .i64 l.den) ∧ Below w.heap.size w w1) := Lib.hid ⟨Lh1.out, (cell_of_row _ _ _ _ _ _ Lh1.out).trans rfl, (cell_of_row _ _ _ _ _ _ Lh1.out).trans rfl, (cell_of_row _ _ _ _ _ _ Lh1.out).trans rfl, HB1.out⟩
  clear Lh1 HB1
  go_region_held3 (fun w' => w'.heap[w.heap.size]? = some (.cells #[.string l.name, .int .i64 l.kind, .int .i64 l.src, .int .i64 l.dst, v1, v2, v3, .int .i64 l.positions, .int .i64 l.speed, .int .i64 l.leak, .int .i64 l.crest, .int .i64 l.num, .int .i64 l.den, .int .i64 l.prime, .int .i64 l.brk, .int .i64 l.backNum, .int .i64 l.backDen, .int .i64 l.delay] 26) ∧ w'.cell? ⟨w.heap.size, 10, none⟩ = some (.int .i64 l.crest) ∧ w'.cell? ⟨w.heap.size, 11, none⟩ = some (.int .i64 l.num) ∧ w'.cell? ⟨w.heap.size, 12, none⟩ = some (.int .i64 l.den) ∧ Below w.heap.size w w') (first | assumption | exact HS0.out | exact stepW (by assumption) hb | exact stepWN (by assumption) _ | exact stepWA (by assumption) | exact stepWU (by assumption) | exact stepWN (stepWU (by assumption)) _) ((first | (go_at_call 23; refine (sub_b _ _ _ HA.out HLC.out).mono ?_; rintro e w' ⟨rfl, hb⟩) | (go_at_call 40; refine (part_b _ _ _ _).mono ?_; rintro e w' ⟨rfl, hb⟩)))
  rename World => w2
  rename _ ∧ _ => hFin
  obtain ⟨qL, -, -, -, qBel⟩ := hFin
  have Lh2 := Lib.hid qL
  have HB2 := Lib.hid qBel
  clear HS0 qBel qL
  have cL0 : w2.cell? ⟨w.heap.size, 0, none⟩ = some (.string l.name) := (cell_of_row _ _ _ _ _ _ Lh2.out).trans rfl
  have cL1 : w2.cell? ⟨w.heap.size, 1, none⟩ = some (.int .i64 l.kind) := (cell_of_row _ _ _ _ _ _ Lh2.out).trans rfl
  have cL2 : w2.cell? ⟨w.heap.size, 2, none⟩ = some (.int .i64 l.src) := (cell_of_row _ _ _ _ _ _ Lh2.out).trans rfl
  have cL3 : w2.cell? ⟨w.heap.size, 3, none⟩ = some (.int .i64 l.dst) := (cell_of_row _ _ _ _ _ _ Lh2.out).trans rfl
  have cL4 : w2.cell? ⟨w.heap.size, 4, none⟩ = some (v1) := (cell_of_row _ _ _ _ _ _ Lh2.out).trans rfl
  have cL5 : w2.cell? ⟨w.heap.size, 5, none⟩ = some (v2) := (cell_of_row _ _ _ _ _ _ Lh2.out).trans rfl
  have cL6 : w2.cell? ⟨w.heap.size, 6, none⟩ = some (v3) := (cell_of_row _ _ _ _ _ _ Lh2.out).trans rfl
  have cL7 : w2.cell? ⟨w.heap.size, 7, none⟩ = some (.int .i64 l.positions) := (cell_of_row _ _ _ _ _ _ Lh2.out).trans rfl
  have cL8 : w2.cell? ⟨w.heap.size, 8, none⟩ = some (.int .i64 l.speed) := (cell_of_row _ _ _ _ _ _ Lh2.out).trans rfl
  have cL9 : w2.cell? ⟨w.heap.size, 9, none⟩ = some (.int .i64 l.leak) := (cell_of_row _ _ _ _ _ _ Lh2.out).trans rfl
  have cL10 : w2.cell? ⟨w.heap.size, 10, none⟩ = some (.int .i64 l.crest) := (cell_of_row _ _ _ _ _ _ Lh2.out).trans rfl
  have cL11 : w2.cell? ⟨w.heap.size, 11, none⟩ = some (.int .i64 l.num) := (cell_of_row _ _ _ _ _ _ Lh2.out).trans rfl
  have cL12 : w2.cell? ⟨w.heap.size, 12, none⟩ = some (.int .i64 l.den) := (cell_of_row _ _ _ _ _ _ Lh2.out).trans rfl
  have cL13 : w2.cell? ⟨w.heap.size, 13, none⟩ = some (.int .i64 l.prime) := (cell_of_row _ _ _ _ _ _ Lh2.out).trans rfl
  have cL14 : w2.cell? ⟨w.heap.size, 14, none⟩ = some (.int .i64 l.brk) := (cell_of_row _ _ _ _ _ _ Lh2.out).trans rfl
  have cL15 : w2.cell? ⟨w.heap.size, 15, none⟩ = some (.int .i64 l.backNum) := (cell_of_row _ _ _ _ _ _ Lh2.out).trans rfl
  have cL16 : w2.cell? ⟨w.heap.size, 16, none⟩ = some (.int .i64 l.backDen) := (cell_of_row _ _ _ _ _ _ Lh2.out).trans rfl
  have cL17 : w2.cell? ⟨w.heap.size, 17, none⟩ = some (.int .i64 l.delay) := (cell_of_row _ _ _ _ _ _ Lh2.out).trans rfl

  go_wp2_with fail
  go_ret
  exact retI_mk HE.out HB2.out
set_option maxRecDepth 100000 in
set_option maxHeartbeats 4000000 in
theorem asks_5 (l : LinkV) (v1 v2 v3 : Value) (p : Int) (o : Bool) (c : List PointV) (vc : Value) (a b : Int) (w : World) (hk : l.kind = 5) (ha : I64 a) (hl : I64 l.crest) :
    Calls Try.prog 26 #[.agg #[.string l.name, .int .i64 l.kind, .int .i64 l.src, .int .i64 l.dst, v1, v2, v3, .int .i64 l.positions, .int .i64 l.speed, .int .i64 l.leak, .int .i64 l.crest, .int .i64 l.num, .int .i64 l.den, .int .i64 l.prime, .int .i64 l.brk, .int .i64 l.backNum, .int .i64 l.backDen, .int .i64 l.delay], .int .i64 p, .bool o, vc, .int .i64 a, .int .i64 b] w (RetI (asksN l p o c a b) w) := by
  have HA := Lib.hid ha
  have HLC := Lib.hid hl
  have HE := Lib.hid (asks_k5 hk p o c a b)
  have k0 : (l.kind == 0) = false := by rw [hk]; rfl
  have k2 : (l.kind == 2) = false := by rw [hk]; rfl
  have k3 : (l.kind == 3) = false := by rw [hk]; rfl
  have k5 : (l.kind == 5) = true := by rw [hk]; rfl
  clear ha hl hk
  cases o
  · go_enter Try.func26, Try.ntmps26
    go_wp2_with fail
    go_ret
    refine retI_mk HE.out ?_
    (repeat (first | with_reducible exact Below.refl _ _ | with_reducible refine Below.setCell ?_ (by first | exact Nat.le_refl _ | (simp; done) | (simp; omega)) _ | with_reducible refine Below.alloc ?_ (by first | exact Nat.le_refl _ | (simp; done) | (simp; omega)) _ | with_reducible refine below_drewN ?_))
  · go_enter Try.func26, Try.ntmps26
    go_upto_region 13 with fail
    have HB1 := Lib.hid ((Below.refl w.heap.size w).alloc (Nat.le_refl _) (.cells #[.string l.name, .int .i64 l.kind, .int .i64 l.src, .int .i64 l.dst, v1, v2, v3, .int .i64 l.positions, .int .i64 l.speed, .int .i64 l.leak, .int .i64 l.crest, .int .i64 l.num, .int .i64 l.den, .int .i64 l.prime, .int .i64 l.brk, .int .i64 l.backNum, .int .i64 l.backDen, .int .i64 l.delay] 26))
    have Lh1 := Lib.hid (heap_alloc_new w (.cells #[.string l.name, .int .i64 l.kind, .int .i64 l.src, .int .i64 l.dst, v1, v2, v3, .int .i64 l.positions, .int .i64 l.speed, .int .i64 l.leak, .int .i64 l.crest, .int .i64 l.num, .int .i64 l.den, .int .i64 l.prime, .int .i64 l.brk, .int .i64 l.backNum, .int .i64 l.backDen, .int .i64 l.delay] 26))
    generalize w.alloc (.cells #[.string l.name, .int .i64 l.kind, .int .i64 l.src, .int .i64 l.dst, v1, v2, v3, .int .i64 l.positions, .int .i64 l.speed, .int .i64 l.leak, .int .i64 l.crest, .int .i64 l.num, .int .i64 l.den, .int .i64 l.prime, .int .i64 l.brk, .int .i64 l.backNum, .int .i64 l.backDen, .int .i64 l.delay] 26) = w1 at *
    have cL0 : w1.cell? ⟨w.heap.size, 0, none⟩ = some (.string l.name) := (cell_of_row _ _ _ _ _ _ Lh1.out).trans rfl
    have cL1 : w1.cell? ⟨w.heap.size, 1, none⟩ = some (.int .i64 l.kind) := (cell_of_row _ _ _ _ _ _ Lh1.out).trans rfl
    have cL2 : w1.cell? ⟨w.heap.size, 2, none⟩ = some (.int .i64 l.src) := (cell_of_row _ _ _ _ _ _ Lh1.out).trans rfl
    have cL3 : w1.cell? ⟨w.heap.size, 3, none⟩ = some (.int .i64 l.dst) := (cell_of_row _ _ _ _ _ _ Lh1.out).trans rfl
    have cL4 : w1.cell? ⟨w.heap.size, 4, none⟩ = some (v1) := (cell_of_row _ _ _ _ _ _ Lh1.out).trans rfl
    have cL5 : w1.cell? ⟨w.heap.size, 5, none⟩ = some (v2) := (cell_of_row _ _ _ _ _ _ Lh1.out).trans rfl
    have cL6 : w1.cell? ⟨w.heap.size, 6, none⟩ = some (v3) := (cell_of_row _ _ _ _ _ _ Lh1.out).trans rfl
    have cL7 : w1.cell? ⟨w.heap.size, 7, none⟩ = some (.int .i64 l.positions) := (cell_of_row _ _ _ _ _ _ Lh1.out).trans rfl
    have cL8 : w1.cell? ⟨w.heap.size, 8, none⟩ = some (.int .i64 l.speed) := (cell_of_row _ _ _ _ _ _ Lh1.out).trans rfl
    have cL9 : w1.cell? ⟨w.heap.size, 9, none⟩ = some (.int .i64 l.leak) := (cell_of_row _ _ _ _ _ _ Lh1.out).trans rfl
    have cL10 : w1.cell? ⟨w.heap.size, 10, none⟩ = some (.int .i64 l.crest) := (cell_of_row _ _ _ _ _ _ Lh1.out).trans rfl
    have cL11 : w1.cell? ⟨w.heap.size, 11, none⟩ = some (.int .i64 l.num) := (cell_of_row _ _ _ _ _ _ Lh1.out).trans rfl
    have cL12 : w1.cell? ⟨w.heap.size, 12, none⟩ = some (.int .i64 l.den) := (cell_of_row _ _ _ _ _ _ Lh1.out).trans rfl
    have cL13 : w1.cell? ⟨w.heap.size, 13, none⟩ = some (.int .i64 l.prime) := (cell_of_row _ _ _ _ _ _ Lh1.out).trans rfl
    have cL14 : w1.cell? ⟨w.heap.size, 14, none⟩ = some (.int .i64 l.brk) := (cell_of_row _ _ _ _ _ _ Lh1.out).trans rfl
    have cL15 : w1.cell? ⟨w.heap.size, 15, none⟩ = some (.int .i64 l.backNum) := (cell_of_row _ _ _ _ _ _ Lh1.out).trans rfl
    have cL16 : w1.cell? ⟨w.heap.size, 16, none⟩ = some (.int .i64 l.backDen) := (cell_of_row _ _ _ _ _ _ Lh1.out).trans rfl
    have cL17 : w1.cell? ⟨w.heap.size, 17, none⟩ = some (.int .i64 l.delay) := (cell_of_row _ _ _ _ _ _ Lh1.out).trans rfl
    clear cL0 cL1 cL2 cL3 cL4 cL5 cL6 cL7 cL8 cL9 cL10 cL11 cL12 cL13 cL14 cL15 cL16 cL17
    have HS0 : Hid (w1.heap[w.heap.size]? = some (.cells #[.string l.name, .int .i64 l.kind, .int .i64 l.src, .int .i64 l.dst, v1, v2, v3, .int .i64 l.positions, .int .i64 l.speed, .int .i64 l.leak, .int .i64 l.crest, .int .i64 l.num, .int .i64 l.den, .int .i64 l.prime, .int .i64 l.brk, .int .i64 l.backNum, .int .i64 l.backDen, .int .i64 l.delay] 26) ∧ w1.cell? ⟨w.heap.size, 10, none⟩ = some (.int .i64 l.crest) ∧ w1.cell? ⟨w.heap.size, 11, none⟩ = some (.int .i64 l.num) ∧ w1.cell? ⟨w.heap.size, 12, none⟩ = some (.int .i64 l.den) ∧ Below w.heap.size w w1) := Lib.hid ⟨Lh1.out, (cell_of_row _ _ _ _ _ _ Lh1.out).trans rfl, (cell_of_row _ _ _ _ _ _ Lh1.out).trans rfl, (cell_of_row _ _ _ _ _ _ Lh1.out).trans rfl, HB1.out⟩
    clear Lh1 HB1
    go_region_held3 (fun w' => w'.heap[w.heap.size]? = some (.cells #[.string l.name, .int .i64 l.kind, .int .i64 l.src, .int .i64 l.dst, v1, v2, v3, .int .i64 l.positions, .int .i64 l.speed, .int .i64 l.leak, .int .i64 l.crest, .int .i64 l.num, .int .i64 l.den, .int .i64 l.prime, .int .i64 l.brk, .int .i64 l.backNum, .int .i64 l.backDen, .int .i64 l.delay] 26) ∧ w'.cell? ⟨w.heap.size, 10, none⟩ = some (.int .i64 l.crest) ∧ w'.cell? ⟨w.heap.size, 11, none⟩ = some (.int .i64 l.num) ∧ w'.cell? ⟨w.heap.size, 12, none⟩ = some (.int .i64 l.den) ∧ Below w.heap.size w w') (first | assumption | exact HS0.out | exact stepW (by assumption) hb | exact stepWN (by assumption) _ | exact stepWA (by assumption) | exact stepWU (by assumption) | exact stepWN (stepWU (by assumption)) _) ((first | (go_at_call 23; refine (sub_b _ _ _ HA.out HLC.out).mono ?_; rintro e w' ⟨rfl, hb⟩) | (go_at_call 40; refine (part_b _ _ _ _).mono ?_; rintro e w' ⟨rfl, hb⟩)))
    rename World => w2
    rename _ ∧ _ => hFin
    obtain ⟨qL, -, -, -, qBel⟩ := hFin
    have Lh2 := Lib.hid qL
    have HB2 := Lib.hid qBel
    clear HS0 qBel qL
    have cL0 : w2.cell? ⟨w.heap.size, 0, none⟩ = some (.string l.name) := (cell_of_row _ _ _ _ _ _ Lh2.out).trans rfl
    have cL1 : w2.cell? ⟨w.heap.size, 1, none⟩ = some (.int .i64 l.kind) := (cell_of_row _ _ _ _ _ _ Lh2.out).trans rfl
    have cL2 : w2.cell? ⟨w.heap.size, 2, none⟩ = some (.int .i64 l.src) := (cell_of_row _ _ _ _ _ _ Lh2.out).trans rfl
    have cL3 : w2.cell? ⟨w.heap.size, 3, none⟩ = some (.int .i64 l.dst) := (cell_of_row _ _ _ _ _ _ Lh2.out).trans rfl
    have cL4 : w2.cell? ⟨w.heap.size, 4, none⟩ = some (v1) := (cell_of_row _ _ _ _ _ _ Lh2.out).trans rfl
    have cL5 : w2.cell? ⟨w.heap.size, 5, none⟩ = some (v2) := (cell_of_row _ _ _ _ _ _ Lh2.out).trans rfl
    have cL6 : w2.cell? ⟨w.heap.size, 6, none⟩ = some (v3) := (cell_of_row _ _ _ _ _ _ Lh2.out).trans rfl
    have cL7 : w2.cell? ⟨w.heap.size, 7, none⟩ = some (.int .i64 l.positions) := (cell_of_row _ _ _ _ _ _ Lh2.out).trans rfl
    have cL8 : w2.cell? ⟨w.heap.size, 8, none⟩ = some (.int .i64 l.speed) := (cell_of_row _ _ _ _ _ _ Lh2.out).trans rfl
    have cL9 : w2.cell? ⟨w.heap.size, 9, none⟩ = some (.int .i64 l.leak) := (cell_of_row _ _ _ _ _ _ Lh2.out).trans rfl
    have cL10 : w2.cell? ⟨w.heap.size, 10, none⟩ = some (.int .i64 l.crest) := (cell_of_row _ _ _ _ _ _ Lh2.out).trans rfl
    have cL11 : w2.cell? ⟨w.heap.size, 11, none⟩ = some (.int .i64 l.num) := (cell_of_row _ _ _ _ _ _ Lh2.out).trans rfl
    have cL12 : w2.cell? ⟨w.heap.size, 12, none⟩ = some (.int .i64 l.den) := (cell_of_row _ _ _ _ _ _ Lh2.out).trans rfl
    have cL13 : w2.cell? ⟨w.heap.size, 13, none⟩ = some (.int .i64 l.prime) := (cell_of_row _ _ _ _ _ _ Lh2.out).trans rfl
    have cL14 : w2.cell? ⟨w.heap.size, 14, none⟩ = some (.int .i64 l.brk) := (cell_of_row _ _ _ _ _ _ Lh2.out).trans rfl
    have cL15 : w2.cell? ⟨w.heap.size, 15, none⟩ = some (.int .i64 l.backNum) := (cell_of_row _ _ _ _ _ _ Lh2.out).trans rfl
    have cL16 : w2.cell? ⟨w.heap.size, 16, none⟩ = some (.int .i64 l.backDen) := (cell_of_row _ _ _ _ _ _ Lh2.out).trans rfl
    have cL17 : w2.cell? ⟨w.heap.size, 17, none⟩ = some (.int .i64 l.delay) := (cell_of_row _ _ _ _ _ _ Lh2.out).trans rfl
    go_wp2_with fail
    go_ret
    exact retI_mk HE.out HB2.out
/-- a link that gates know -/
def LinkB (l : LinkV) : Prop := I64 l.leak ∧ I64 l.crest ∧ 0 ≤ l.kind ∧ l.kind ≤ 5
theorem asks_any (l : LinkV) (v1 v2 v3 : Value) (p : Int) (o : Bool) (c : List PointV) (vc : Value) (a b : Int) (w : World) (hk : LinkB l) (ha : I64 a) (hc : LArg RPoint 2 vc c w) :
    Calls Try.prog 26 #[.agg #[.string l.name, .int .i64 l.kind, .int .i64 l.src, .int .i64 l.dst, v1, v2, v3, .int .i64 l.positions, .int .i64 l.speed, .int .i64 l.leak, .int .i64 l.crest, .int .i64 l.num, .int .i64 l.den, .int .i64 l.prime, .int .i64 l.brk, .int .i64 l.backNum, .int .i64 l.backDen, .int .i64 l.delay], .int .i64 p, .bool o, vc, .int .i64 a, .int .i64 b] w (RetI (asksN l p o c a b) w) := by
  obtain ⟨h1, h2, h3, h4⟩ := hk
  have h5 : l.kind = 0 ∨ l.kind = 1 ∨ l.kind = 2 ∨ l.kind = 3 ∨ l.kind = 4 ∨ l.kind = 5 := by omega
  rcases h5 with h | h | h | h | h | h
  · exact asks_0 l v1 v2 v3 p o c vc a b w h ha h1 hc
  · exact asks_1 l v1 v2 v3 p o c vc a b w h ha h2
  · exact asks_2 l v1 v2 v3 p o c vc a b w h
  · exact asks_3 l v1 v2 v3 p o c vc a b w h
  · exact asks_4 l v1 v2 v3 p o c vc a b w h
  · exact asks_5 l v1 v2 v3 p o c vc a b w h ha h2
end Go.Proofs.Ytkoobkcmmfdlhaa
