/- gate.Bounds. -/
import Derived.Test.YtkoobkcmmfdlhaaUDrift
namespace Go.Proofs.Ytkoobkcmmfdlhaa
open Go.RowKit
def boundsN (l : LinkV) (k : KnownV) (fr t : SpanV) : SpanV := ⟨asksN l k.pos.lo (decide (1 ≤ k.opened.lo)) l.band.lo fr.lo t.hi, asksN l k.pos.hi (decide (1 ≤ k.opened.hi)) l.band.hi fr.hi t.lo⟩
def RetS (s : SpanV) (w : World) (e : Ending) (w' : World) : Prop := e = .returned (.agg #[.int .i64 s.lo, .int .i64 s.hi]) ∧ Below w.heap.size w w'
theorem retS_mk {s : SpanV} {a b : Int} {w w' : World} (h : s = ⟨a, b⟩) (hb : Below w.heap.size w w') : RetS s w (.returned (.agg #[.int .i64 a, .int .i64 b])) w' := by subst h; exact ⟨rfl, hb⟩
theorem undSp : Try.prog.underlying 50 = some (.struct (Try.prog.fieldsOf 50)) := by kernel_rfl
theorem infoSp : (Try.prog.info? 50).map (·.size) = some 2 := by kernel_rfl
theorem five_rowsV {w : World} {A B C D E : Obj} : (((((w.alloc A).alloc B).alloc C).alloc D).alloc E).heap[w.heap.size]? = some A ∧ (((((w.alloc A).alloc B).alloc C).alloc D).alloc E).heap[w.heap.size + 1]? = some B ∧ (((((w.alloc A).alloc B).alloc C).alloc D).alloc E).heap[w.heap.size + 1 + 1]? = some C ∧
    (((((w.alloc A).alloc B).alloc C).alloc D).alloc E).heap[w.heap.size + 1 + 1 + 1]? = some D ∧ (((((w.alloc A).alloc B).alloc C).alloc D).alloc E).heap[w.heap.size + 1 + 1 + 1 + 1]? = some E ∧ Below w.heap.size w (((((w.alloc A).alloc B).alloc C).alloc D).alloc E) := by
  obtain ⟨h1, h2, h3, h4⟩ := three_rowsV (w := w) (A := A) (B := B) (C := C)
  obtain ⟨g1, g2, g3⟩ := two_rowsV (w := ((w.alloc A).alloc B).alloc C) (A := D) (B := E)
  have s3 : (((w.alloc A).alloc B).alloc C).heap.size = w.heap.size + 1 + 1 + 1 := by simp
  rw [s3] at g1 g2
  exact ⟨blk_below h1 g3 (blk_lt h1), blk_below h2 g3 (blk_lt h2), blk_below h3 g3 (blk_lt h3), g1, g2, h4.trans (g3.mono h4.size)⟩
theorem below_blk {u w' : World} {b j : Nat} {v : Value} (h : u.cell? ⟨b, j, none⟩ = some v) (hb : Below u.heap.size u w') : w'.cell? ⟨b, j, none⟩ = some v := (hb.cell (p := ⟨b, j, none⟩) (World.block_lt_of_cell? _ _ h)).trans h
theorem stepB {w cur w' : World} {v1 v2 v3 : Value} {l : LinkV} {k : KnownV} {fr t : SpanV} (h : cur.heap[w.heap.size]? = some (.cells #[.string l.name, .int .i64 l.kind, .int .i64 l.src, .int .i64 l.dst, v1, v2, v3, .int .i64 l.positions, .int .i64 l.speed, .int .i64 l.leak, .int .i64 l.crest, .int .i64 l.num, .int .i64 l.den, .int .i64 l.prime, .int .i64 l.brk, .int .i64 l.backNum, .int .i64 l.backDen, .int .i64 l.delay] 26 (0, 0)) ∧ cur.cell? ⟨w.heap.size, 5, none⟩ = some (v2) ∧ cur.cell? ⟨w.heap.size, 6, none⟩ = some (v3) ∧ cur.cell? ⟨w.heap.size + 1, 0, none⟩ = some (.int .i64 k.pos.lo) ∧ cur.cell? ⟨w.heap.size + 1, 1, none⟩ = some (.int .i64 k.pos.hi) ∧ cur.cell? ⟨w.heap.size + 1, 3, none⟩ = some (.int .i64 k.opened.lo) ∧ cur.cell? ⟨w.heap.size + 1, 4, none⟩ = some (.int .i64 k.opened.hi) ∧ cur.cell? ⟨w.heap.size + 1 + 1, 0, none⟩ = some (.int .i64 fr.lo) ∧ cur.cell? ⟨w.heap.size + 1 + 1, 1, none⟩ = some (.int .i64 fr.hi) ∧ cur.cell? ⟨w.heap.size + 1 + 1 + 1, 0, none⟩ = some (.int .i64 t.lo) ∧ cur.cell? ⟨w.heap.size + 1 + 1 + 1, 1, none⟩ = some (.int .i64 t.hi) ∧ (∃ x y : Value, cur.heap[w.heap.size + 1 + 1 + 1 + 1]? = some (.cells #[x, y] 50 (0, 0))) ∧ Below w.heap.size w cur) (hb : Below cur.heap.size cur w') : w'.heap[w.heap.size]? = some (.cells #[.string l.name, .int .i64 l.kind, .int .i64 l.src, .int .i64 l.dst, v1, v2, v3, .int .i64 l.positions, .int .i64 l.speed, .int .i64 l.leak, .int .i64 l.crest, .int .i64 l.num, .int .i64 l.den, .int .i64 l.prime, .int .i64 l.brk, .int .i64 l.backNum, .int .i64 l.backDen, .int .i64 l.delay] 26 (0, 0)) ∧ w'.cell? ⟨w.heap.size, 5, none⟩ = some (v2) ∧ w'.cell? ⟨w.heap.size, 6, none⟩ = some (v3) ∧ w'.cell? ⟨w.heap.size + 1, 0, none⟩ = some (.int .i64 k.pos.lo) ∧ w'.cell? ⟨w.heap.size + 1, 1, none⟩ = some (.int .i64 k.pos.hi) ∧ w'.cell? ⟨w.heap.size + 1, 3, none⟩ = some (.int .i64 k.opened.lo) ∧ w'.cell? ⟨w.heap.size + 1, 4, none⟩ = some (.int .i64 k.opened.hi) ∧ w'.cell? ⟨w.heap.size + 1 + 1, 0, none⟩ = some (.int .i64 fr.lo) ∧ w'.cell? ⟨w.heap.size + 1 + 1, 1, none⟩ = some (.int .i64 fr.hi) ∧ w'.cell? ⟨w.heap.size + 1 + 1 + 1, 0, none⟩ = some (.int .i64 t.lo) ∧ w'.cell? ⟨w.heap.size + 1 + 1 + 1, 1, none⟩ = some (.int .i64 t.hi) ∧ (∃ x y : Value, w'.heap[w.heap.size + 1 + 1 + 1 + 1]? = some (.cells #[x, y] 50 (0, 0))) ∧ Below w.heap.size w w' := by
  obtain ⟨a, c0, c1, c2, c3, c4, c5, c6, c7, c8, c9, hx, d⟩ := h
  obtain ⟨x, y, hxy⟩ := hx
  exact ⟨blk_below a hb (blk_lt a), below_blk c0 hb, below_blk c1 hb, below_blk c2 hb, below_blk c3 hb, below_blk c4 hb, below_blk c5 hb, below_blk c6 hb, below_blk c7 hb, below_blk c8 hb, below_blk c9 hb, ⟨x, y, blk_below hxy hb (blk_lt hxy)⟩, d.trans (hb.mono d.size)⟩
theorem cell_other {w : World} {b c j i : Nat} {v x : Value} (h : w.cell? ⟨b, j, none⟩ = some v) (hne : b ≠ c) : (w.setCell ⟨c, i, none⟩ x).cell? ⟨b, j, none⟩ = some v := by
  rw [← h]
  unfold World.cell?
  rw [heap_setCell_other _ _ _ _ hne]
theorem stepBS {w cur : World} {p q : Value} {v1 v2 v3 : Value} {l : LinkV} {k : KnownV} {fr t : SpanV} (h : cur.heap[w.heap.size]? = some (.cells #[.string l.name, .int .i64 l.kind, .int .i64 l.src, .int .i64 l.dst, v1, v2, v3, .int .i64 l.positions, .int .i64 l.speed, .int .i64 l.leak, .int .i64 l.crest, .int .i64 l.num, .int .i64 l.den, .int .i64 l.prime, .int .i64 l.brk, .int .i64 l.backNum, .int .i64 l.backDen, .int .i64 l.delay] 26 (0, 0)) ∧ cur.cell? ⟨w.heap.size, 5, none⟩ = some (v2) ∧ cur.cell? ⟨w.heap.size, 6, none⟩ = some (v3) ∧ cur.cell? ⟨w.heap.size + 1, 0, none⟩ = some (.int .i64 k.pos.lo) ∧ cur.cell? ⟨w.heap.size + 1, 1, none⟩ = some (.int .i64 k.pos.hi) ∧ cur.cell? ⟨w.heap.size + 1, 3, none⟩ = some (.int .i64 k.opened.lo) ∧ cur.cell? ⟨w.heap.size + 1, 4, none⟩ = some (.int .i64 k.opened.hi) ∧ cur.cell? ⟨w.heap.size + 1 + 1, 0, none⟩ = some (.int .i64 fr.lo) ∧ cur.cell? ⟨w.heap.size + 1 + 1, 1, none⟩ = some (.int .i64 fr.hi) ∧ cur.cell? ⟨w.heap.size + 1 + 1 + 1, 0, none⟩ = some (.int .i64 t.lo) ∧ cur.cell? ⟨w.heap.size + 1 + 1 + 1, 1, none⟩ = some (.int .i64 t.hi) ∧ (∃ x y : Value, cur.heap[w.heap.size + 1 + 1 + 1 + 1]? = some (.cells #[x, y] 50 (0, 0))) ∧ Below w.heap.size w cur) : ((cur.setCell ⟨w.heap.size + 1 + 1 + 1 + 1, 0, none⟩ p).setCell ⟨w.heap.size + 1 + 1 + 1 + 1, 1, none⟩ q).heap[w.heap.size]? = some (.cells #[.string l.name, .int .i64 l.kind, .int .i64 l.src, .int .i64 l.dst, v1, v2, v3, .int .i64 l.positions, .int .i64 l.speed, .int .i64 l.leak, .int .i64 l.crest, .int .i64 l.num, .int .i64 l.den, .int .i64 l.prime, .int .i64 l.brk, .int .i64 l.backNum, .int .i64 l.backDen, .int .i64 l.delay] 26 (0, 0)) ∧ ((cur.setCell ⟨w.heap.size + 1 + 1 + 1 + 1, 0, none⟩ p).setCell ⟨w.heap.size + 1 + 1 + 1 + 1, 1, none⟩ q).cell? ⟨w.heap.size, 5, none⟩ = some (v2) ∧ ((cur.setCell ⟨w.heap.size + 1 + 1 + 1 + 1, 0, none⟩ p).setCell ⟨w.heap.size + 1 + 1 + 1 + 1, 1, none⟩ q).cell? ⟨w.heap.size, 6, none⟩ = some (v3) ∧ ((cur.setCell ⟨w.heap.size + 1 + 1 + 1 + 1, 0, none⟩ p).setCell ⟨w.heap.size + 1 + 1 + 1 + 1, 1, none⟩ q).cell? ⟨w.heap.size + 1, 0, none⟩ = some (.int .i64 k.pos.lo) ∧ ((cur.setCell ⟨w.heap.size + 1 + 1 + 1 + 1, 0, none⟩ p).setCell ⟨w.heap.size + 1 + 1 + 1 + 1, 1, none⟩ q).cell? ⟨w.heap.size + 1, 1, none⟩ = some (.int .i64 k.pos.hi) ∧ ((cur.setCell ⟨w.heap.size + 1 + 1 + 1 + 1, 0, none⟩ p).setCell ⟨w.heap.size + 1 + 1 + 1 + 1, 1, none⟩ q).cell? ⟨w.heap.size + 1, 3, none⟩ = some (.int .i64 k.opened.lo) ∧ ((cur.setCell ⟨w.heap.size + 1 + 1 + 1 + 1, 0, none⟩ p).setCell ⟨w.heap.size + 1 + 1 + 1 + 1, 1, none⟩ q).cell? ⟨w.heap.size + 1, 4, none⟩ = some (.int .i64 k.opened.hi) ∧ ((cur.setCell ⟨w.heap.size + 1 + 1 + 1 + 1, 0, none⟩ p).setCell ⟨w.heap.size + 1 + 1 + 1 + 1, 1, none⟩ q).cell? ⟨w.heap.size + 1 + 1, 0, none⟩ = some (.int .i64 fr.lo) ∧ ((cur.setCell ⟨w.heap.size + 1 + 1 + 1 + 1, 0, none⟩ p).setCell ⟨w.heap.size + 1 + 1 + 1 + 1, 1, none⟩ q).cell? ⟨w.heap.size + 1 + 1, 1, none⟩ = some (.int .i64 fr.hi) ∧ ((cur.setCell ⟨w.heap.size + 1 + 1 + 1 + 1, 0, none⟩ p).setCell ⟨w.heap.size + 1 + 1 + 1 + 1, 1, none⟩ q).cell? ⟨w.heap.size + 1 + 1 + 1, 0, none⟩ = some (.int .i64 t.lo) ∧ ((cur.setCell ⟨w.heap.size + 1 + 1 + 1 + 1, 0, none⟩ p).setCell ⟨w.heap.size + 1 + 1 + 1 + 1, 1, none⟩ q).cell? ⟨w.heap.size + 1 + 1 + 1, 1, none⟩ = some (.int .i64 t.hi) ∧ (∃ x y : Value, ((cur.setCell ⟨w.heap.size + 1 + 1 + 1 + 1, 0, none⟩ p).setCell ⟨w.heap.size + 1 + 1 + 1 + 1, 1, none⟩ q).heap[w.heap.size + 1 + 1 + 1 + 1]? = some (.cells #[x, y] 50 (0, 0))) ∧ Below w.heap.size w ((cur.setCell ⟨w.heap.size + 1 + 1 + 1 + 1, 0, none⟩ p).setCell ⟨w.heap.size + 1 + 1 + 1 + 1, 1, none⟩ q) := by
  obtain ⟨a, c0, c1, c2, c3, c4, c5, c6, c7, c8, c9, hx, d⟩ := h
  obtain ⟨x, y, hxy⟩ := hx
  have h2 := heap_setCell_same _ _ 1 _ _ q (heap_setCell_same _ _ 0 _ _ p hxy)
  have n0 : w.heap.size ≠ w.heap.size + 1 + 1 + 1 + 1 := by omega
  have n1 : w.heap.size + 1 ≠ w.heap.size + 1 + 1 + 1 + 1 := by omega
  have n2 : w.heap.size + 1 + 1 ≠ w.heap.size + 1 + 1 + 1 + 1 := by omega
  have n3 : w.heap.size + 1 + 1 + 1 ≠ w.heap.size + 1 + 1 + 1 + 1 := by omega
  exact ⟨((heap_setCell_other _ _ _ _ n0).trans (heap_setCell_other _ _ _ _ n0)).trans a, cell_other (cell_other c0 n0) n0, cell_other (cell_other c1 n0) n0, cell_other (cell_other c2 n1) n1, cell_other (cell_other c3 n1) n1, cell_other (cell_other c4 n1) n1, cell_other (cell_other c5 n1) n1, cell_other (cell_other c6 n2) n2, cell_other (cell_other c7 n2) n2, cell_other (cell_other c8 n3) n3, cell_other (cell_other c9 n3) n3, ⟨p, q, h2⟩, (d.setCell (by show w.heap.size ≤ w.heap.size + 1 + 1 + 1 + 1; omega) _).setCell (by show w.heap.size ≤ w.heap.size + 1 + 1 + 1 + 1; omega) _⟩
set_option maxRecDepth 100000 in
set_option maxHeartbeats 8000000 in
theorem bounds_any (l : LinkV) (v1 v2 v3 : Value) (k : KnownV) (fr t : SpanV) (w : World) (hk : LinkB l) (hf1 : I64 fr.lo) (hf2 : I64 fr.hi) (h2 : LArg RPoint 2 v2 l.band.lo w) (h3 : LArg RPoint 2 v3 l.band.hi w) :
    Calls Try.prog 20 #[.agg #[.string l.name, .int .i64 l.kind, .int .i64 l.src, .int .i64 l.dst, v1, v2, v3, .int .i64 l.positions, .int .i64 l.speed, .int .i64 l.leak, .int .i64 l.crest, .int .i64 l.num, .int .i64 l.den, .int .i64 l.prime, .int .i64 l.brk, .int .i64 l.backNum, .int .i64 l.backDen, .int .i64 l.delay], .agg #[.int .i64 k.pos.lo, .int .i64 k.pos.hi, .int .i64 k.target, .int .i64 k.opened.lo, .int .i64 k.opened.hi], .agg #[.int .i64 fr.lo, .int .i64 fr.hi], .agg #[.int .i64 t.lo, .int .i64 t.hi]] w (RetS (boundsN l k fr t) w) := by
  obtain ⟨r0, r1, r2, r3, r4, rb⟩ := five_rowsV (w := w) (A := (.cells #[.string l.name, .int .i64 l.kind, .int .i64 l.src, .int .i64 l.dst, v1, v2, v3, .int .i64 l.positions, .int .i64 l.speed, .int .i64 l.leak, .int .i64 l.crest, .int .i64 l.num, .int .i64 l.den, .int .i64 l.prime, .int .i64 l.brk, .int .i64 l.backNum, .int .i64 l.backDen, .int .i64 l.delay] 26)) (B := (.cells #[.int .i64 k.pos.lo, .int .i64 k.pos.hi, .int .i64 k.target, .int .i64 k.opened.lo, .int .i64 k.opened.hi] 52)) (C := (.cells #[.int .i64 fr.lo, .int .i64 fr.hi] 50)) (D := (.cells #[.int .i64 t.lo, .int .i64 t.hi] 50)) (E := (.cells #[.int .i64 0, .int .i64 0] 50))
  generalize hW : (((((w.alloc (.cells #[.string l.name, .int .i64 l.kind, .int .i64 l.src, .int .i64 l.dst, v1, v2, v3, .int .i64 l.positions, .int .i64 l.speed, .int .i64 l.leak, .int .i64 l.crest, .int .i64 l.num, .int .i64 l.den, .int .i64 l.prime, .int .i64 l.brk, .int .i64 l.backNum, .int .i64 l.backDen, .int .i64 l.delay] 26)).alloc (.cells #[.int .i64 k.pos.lo, .int .i64 k.pos.hi, .int .i64 k.target, .int .i64 k.opened.lo, .int .i64 k.opened.hi] 52)).alloc (.cells #[.int .i64 fr.lo, .int .i64 fr.hi] 50)).alloc (.cells #[.int .i64 t.lo, .int .i64 t.hi] 50)).alloc (.cells #[.int .i64 0, .int .i64 0] 50)) = w0 at *
  have HS0 : Hid (w0.heap[w.heap.size]? = some (.cells #[.string l.name, .int .i64 l.kind, .int .i64 l.src, .int .i64 l.dst, v1, v2, v3, .int .i64 l.positions, .int .i64 l.speed, .int .i64 l.leak, .int .i64 l.crest, .int .i64 l.num, .int .i64 l.den, .int .i64 l.prime, .int .i64 l.brk, .int .i64 l.backNum, .int .i64 l.backDen, .int .i64 l.delay] 26 (0, 0)) ∧ w0.cell? ⟨w.heap.size, 5, none⟩ = some (v2) ∧ w0.cell? ⟨w.heap.size, 6, none⟩ = some (v3) ∧ w0.cell? ⟨w.heap.size + 1, 0, none⟩ = some (.int .i64 k.pos.lo) ∧ w0.cell? ⟨w.heap.size + 1, 1, none⟩ = some (.int .i64 k.pos.hi) ∧ w0.cell? ⟨w.heap.size + 1, 3, none⟩ = some (.int .i64 k.opened.lo) ∧ w0.cell? ⟨w.heap.size + 1, 4, none⟩ = some (.int .i64 k.opened.hi) ∧ w0.cell? ⟨w.heap.size + 1 + 1, 0, none⟩ = some (.int .i64 fr.lo) ∧ w0.cell? ⟨w.heap.size + 1 + 1, 1, none⟩ = some (.int .i64 fr.hi) ∧ w0.cell? ⟨w.heap.size + 1 + 1 + 1, 0, none⟩ = some (.int .i64 t.lo) ∧ w0.cell? ⟨w.heap.size + 1 + 1 + 1, 1, none⟩ = some (.int .i64 t.hi) ∧ (∃ x y : Value, w0.heap[w.heap.size + 1 + 1 + 1 + 1]? = some (.cells #[x, y] 50 (0, 0))) ∧ Below w.heap.size w w0) := Lib.hid ⟨r0, rowN r0 5 (v2) rfl, rowN r0 6 (v3) rfl, rowN r1 0 (.int .i64 k.pos.lo) rfl, rowN r1 1 (.int .i64 k.pos.hi) rfl, rowN r1 3 (.int .i64 k.opened.lo) rfl, rowN r1 4 (.int .i64 k.opened.hi) rfl, rowN r2 0 (.int .i64 fr.lo) rfl, rowN r2 1 (.int .i64 fr.hi) rfl, rowN r3 0 (.int .i64 t.lo) rfl, rowN r3 1 (.int .i64 t.hi) rfl, ⟨_, _, r4⟩, rb⟩
  have HK := Lib.hid hk
  have HF1 := Lib.hid hf1
  have HF2 := Lib.hid hf2
  have HL2 := Lib.hid h2
  have HL3 := Lib.hid h3
  clear r0 r1 r2 r3 r4 rb hk hf1 hf2 h2 h3
  go_enter Try.func20, Try.ntmps20
  go_upto_region 1 with fail
  clear hW
  refine wp_region_noPanic ?_
  refine wp_region_held_drew (S := fun w' => w'.heap[w.heap.size]? = some (.cells #[.string l.name, .int .i64 l.kind, .int .i64 l.src, .int .i64 l.dst, v1, v2, v3, .int .i64 l.positions, .int .i64 l.speed, .int .i64 l.leak, .int .i64 l.crest, .int .i64 l.num, .int .i64 l.den, .int .i64 l.prime, .int .i64 l.brk, .int .i64 l.backNum, .int .i64 l.backDen, .int .i64 l.delay] 26 (0, 0)) ∧ w'.cell? ⟨w.heap.size, 5, none⟩ = some (v2) ∧ w'.cell? ⟨w.heap.size, 6, none⟩ = some (v3) ∧ w'.cell? ⟨w.heap.size + 1, 0, none⟩ = some (.int .i64 k.pos.lo) ∧ w'.cell? ⟨w.heap.size + 1, 1, none⟩ = some (.int .i64 k.pos.hi) ∧ w'.cell? ⟨w.heap.size + 1, 3, none⟩ = some (.int .i64 k.opened.lo) ∧ w'.cell? ⟨w.heap.size + 1, 4, none⟩ = some (.int .i64 k.opened.hi) ∧ w'.cell? ⟨w.heap.size + 1 + 1, 0, none⟩ = some (.int .i64 fr.lo) ∧ w'.cell? ⟨w.heap.size + 1 + 1, 1, none⟩ = some (.int .i64 fr.hi) ∧ w'.cell? ⟨w.heap.size + 1 + 1 + 1, 0, none⟩ = some (.int .i64 t.lo) ∧ w'.cell? ⟨w.heap.size + 1 + 1 + 1, 1, none⟩ = some (.int .i64 t.hi) ∧ (∃ x y : Value, w'.heap[w.heap.size + 1 + 1 + 1 + 1]? = some (.cells #[x, y] 50 (0, 0))) ∧ Below w.heap.size w w') (by kernel_rfl) (stepB HS0.out (Below.refl _ _).drew) (fun hHeld => ?_)
  refine' wpAnyH_take (i := 0) (v := _) (by simp only [List.getElem?_toArray, List.getElem?_cons_zero]; exact rfl) (by kernel_rfl) (by kernel_rfl) (by kernel_rfl) (fun _ _ _ h => h) (Or.inl ⟨by rfl, ?y0x1⟩) hHeld ?r0x1
  case y0x1 => (intro w hSw; refine exec_load_row 26 ?_ ?_ _ ?_ 26 _ _ _ (hSw.1) undLk rfl infoLk; rotate_left 1; exact rfl; exact rfl)
  try simp only [Act.put, List.setIfInBounds_toArray, List.set_cons_zero, List.set_cons_succ]
  refine' wpAnyH_take (i := 1) (v := _) (by simp only [List.getElem?_toArray, List.getElem?_cons_succ, List.getElem?_cons_zero]; exact rfl) (by kernel_rfl) (by kernel_rfl) (by kernel_rfl) (fun _ _ _ h => h) (Or.inl ⟨by rfl, ?y1x2⟩) hHeld ?r1x2
  case y1x2 => (intro w hSw; (try dsimp only at hSw); go_simp; try with_reducible rfl)
  try simp only [Act.put, List.setIfInBounds_toArray, List.set_cons_zero, List.set_cons_succ]
  refine' wpAnyH_take (i := 2) (v := _) (by simp only [List.getElem?_toArray, List.getElem?_cons_succ, List.getElem?_cons_zero]; exact rfl) (by kernel_rfl) (by kernel_rfl) (by kernel_rfl) (fun _ _ _ h => h) (Or.inl ⟨by rfl, ?y2x3⟩) hHeld ?r2x3
  case y2x3 => (intro w hSw; (try dsimp only at hSw); go_simp; try with_reducible rfl)
  try simp only [Act.put, List.setIfInBounds_toArray, List.set_cons_zero, List.set_cons_succ]
  refine' wpAnyH_take (i := 3) (v := _) (by simp only [List.getElem?_toArray, List.getElem?_cons_succ, List.getElem?_cons_zero]; exact rfl) (by kernel_rfl) (by kernel_rfl) (by kernel_rfl) (fun _ _ _ h => h) (Or.inl ⟨by rfl, ?y3x4⟩) hHeld ?r3x4
  case y3x4 => (intro w hSw; (try dsimp only at hSw); go_simp; try with_reducible rfl)
  try simp only [Act.put, List.setIfInBounds_toArray, List.set_cons_zero, List.set_cons_succ]
  refine' wpAnyH_take (i := 4) (v := _) (by simp only [List.getElem?_toArray, List.getElem?_cons_succ, List.getElem?_cons_zero]; exact rfl) (by kernel_rfl) (by kernel_rfl) (by kernel_rfl) (fun _ _ _ h => h) (Or.inl ⟨by rfl, ?y4x5⟩) hHeld ?r4x5
  case y4x5 => (intro w hSw; (try dsimp only at hSw); go_simp; try with_reducible rfl)
  try simp only [Act.put, List.setIfInBounds_toArray, List.set_cons_zero, List.set_cons_succ]
  refine' wpAnyH_take (i := 5) (v := _) (by simp only [List.getElem?_toArray, List.getElem?_cons_succ, List.getElem?_cons_zero]; exact rfl) (by kernel_rfl) (by kernel_rfl) (by kernel_rfl) (fun _ _ _ h => h) (Or.inl ⟨by rfl, ?y5x6⟩) hHeld ?r5x6
  case y5x6 => (intro w hSw; (try dsimp only at hSw); go_simp; try with_reducible rfl)
  try simp only [Act.put, List.setIfInBounds_toArray, List.set_cons_zero, List.set_cons_succ]
  refine' wpAnyH_take (i := 6) (v := _) (by simp only [List.getElem?_toArray, List.getElem?_cons_succ, List.getElem?_cons_zero]; exact rfl) (by kernel_rfl) (by kernel_rfl) (by kernel_rfl) (fun _ _ _ h => h) (Or.inl ⟨by rfl, ?y6x7⟩) hHeld ?r6x7
  case y6x7 => (intro w hSw; (try dsimp only at hSw); go_simp; try with_reducible rfl)
  try simp only [Act.put, List.setIfInBounds_toArray, List.set_cons_zero, List.set_cons_succ]
  refine' wpAnyH_take (i := 7) (v := _) (by simp only [List.getElem?_toArray, List.getElem?_cons_succ, List.getElem?_cons_zero]; exact rfl) (by kernel_rfl) (by kernel_rfl) (by kernel_rfl) (fun _ _ _ h => h) (Or.inl ⟨by rfl, ?y7x8⟩) hHeld ?r7x8
  case y7x8 => (intro w hSw; (try dsimp only at hSw); go_simp; try with_reducible rfl)
  try simp only [Act.put, List.setIfInBounds_toArray, List.set_cons_zero, List.set_cons_succ]
  refine' wpAnyH_take (i := 8) (v := _) (by simp only [List.getElem?_toArray, List.getElem?_cons_succ, List.getElem?_cons_zero]; exact rfl) (by kernel_rfl) (by kernel_rfl) (by kernel_rfl) (fun _ _ _ h => h) (Or.inl ⟨by rfl, ?y8x9⟩) hHeld ?r8x9
  case y8x9 => (intro w hSw; (try dsimp only at hSw); go_simp; try with_reducible rfl)
  try simp only [Act.put, List.setIfInBounds_toArray, List.set_cons_zero, List.set_cons_succ]
  refine' wpAnyH_take (i := 9) (v := _) (by simp only [List.getElem?_toArray, List.getElem?_cons_succ, List.getElem?_cons_zero]; exact rfl) (by kernel_rfl) (by kernel_rfl) (by kernel_rfl) (fun _ _ _ h => h) (Or.inl ⟨by rfl, ?y9x10⟩) hHeld ?r9x10
  case y9x10 => (intro w hSw; (try dsimp only at hSw); go_simp; try with_reducible rfl)
  try simp only [Act.put, List.setIfInBounds_toArray, List.set_cons_zero, List.set_cons_succ]
  refine' wpAnyH_take (i := 10) (v := _) (by simp only [List.getElem?_toArray, List.getElem?_cons_succ, List.getElem?_cons_zero]; exact rfl) (by kernel_rfl) (by kernel_rfl) (by kernel_rfl) (fun _ _ _ h => h) (Or.inl ⟨by rfl, ?y10x11⟩) hHeld ?r10x11
  case y10x11 => (intro w hSw; (try dsimp only at hSw); go_simp; try with_reducible rfl)
  try simp only [Act.put, List.setIfInBounds_toArray, List.set_cons_zero, List.set_cons_succ]
  refine' wpAnyH_take (i := 11) (v := _) (by simp only [List.getElem?_toArray, List.getElem?_cons_succ, List.getElem?_cons_zero]; exact rfl) (by kernel_rfl) (by kernel_rfl) (by kernel_rfl) (fun _ _ _ h => h) (Or.inl ⟨by rfl, ?y11x12⟩) hHeld ?r11x12
  case y11x12 => (intro w hSw; (try dsimp only at hSw); go_simp; try with_reducible rfl)
  try simp only [Act.put, List.setIfInBounds_toArray, List.set_cons_zero, List.set_cons_succ]
  refine' wpAnyH_take (i := 12) (v := _) (by simp only [List.getElem?_toArray, List.getElem?_cons_succ, List.getElem?_cons_zero]; exact rfl) (by kernel_rfl) (by kernel_rfl) (by kernel_rfl) (fun _ _ _ h => h) (Or.inl ⟨by rfl, ?y12x13⟩) hHeld ?r12x13
  case y12x13 => (intro w hSw; (try dsimp only at hSw); go_simp; try with_reducible rfl)
  try simp only [Act.put, List.setIfInBounds_toArray, List.set_cons_zero, List.set_cons_succ]
  refine' wpAnyH_take (i := 13) (v := _) (by simp only [List.getElem?_toArray, List.getElem?_cons_succ, List.getElem?_cons_zero]; exact rfl) (by kernel_rfl) (by kernel_rfl) (by kernel_rfl) (fun _ _ _ h => h) (Or.inl ⟨by rfl, ?y13x14⟩) hHeld ?r13x14
  case y13x14 => (intro w hSw; (try dsimp only at hSw); go_simp; try with_reducible rfl)
  try simp only [Act.put, List.setIfInBounds_toArray, List.set_cons_zero, List.set_cons_succ]
  refine' wpAnyH_take (i := 14) (v := _) (by simp only [List.getElem?_toArray, List.getElem?_cons_succ, List.getElem?_cons_zero]; exact rfl) (by kernel_rfl) (by kernel_rfl) (by kernel_rfl) (fun _ _ _ h => h) (Or.inl ⟨by rfl, ?y14x15⟩) hHeld ?r14x15
  case y14x15 => (intro w hSw; (try dsimp only at hSw); go_simp; try with_reducible rfl)
  try simp only [Act.put, List.setIfInBounds_toArray, List.set_cons_zero, List.set_cons_succ]
  refine' wpAnyH_take (i := 16) (v := _) (by simp only [List.getElem?_toArray, List.getElem?_cons_succ, List.getElem?_cons_zero]; exact rfl) (by kernel_rfl) (by kernel_rfl) (by kernel_rfl) (fun _ _ _ h => h) (Or.inl ⟨by rfl, ?y16x16⟩) hHeld ?r16x16
  case y16x16 => (intro w hSw; refine exec_load_row 26 ?_ ?_ _ ?_ 26 _ _ _ (hSw.1) undLk rfl infoLk; rotate_left 1; exact rfl; exact rfl)
  try simp only [Act.put, List.setIfInBounds_toArray, List.set_cons_zero, List.set_cons_succ]
  refine' wpAnyH_take (i := 17) (v := _) (by simp only [List.getElem?_toArray, List.getElem?_cons_succ, List.getElem?_cons_zero]; exact rfl) (by kernel_rfl) (by kernel_rfl) (by kernel_rfl) (fun _ _ _ h => h) (Or.inl ⟨by rfl, ?y17x17⟩) hHeld ?r17x17
  case y17x17 => (intro w hSw; (try dsimp only at hSw); go_simp; try with_reducible rfl)
  try simp only [Act.put, List.setIfInBounds_toArray, List.set_cons_zero, List.set_cons_succ]
  refine' wpAnyH_take (i := 18) (v := _) (by simp only [List.getElem?_toArray, List.getElem?_cons_succ, List.getElem?_cons_zero]; exact rfl) (by kernel_rfl) (by kernel_rfl) (by kernel_rfl) (fun _ _ _ h => h) (Or.inl ⟨by rfl, ?y18x18⟩) hHeld ?r18x18
  case y18x18 => (intro w hSw; (try dsimp only at hSw); go_simp; try with_reducible rfl)
  try simp only [Act.put, List.setIfInBounds_toArray, List.set_cons_zero, List.set_cons_succ]
  refine' wpAnyH_take (i := 19) (v := _) (by simp only [List.getElem?_toArray, List.getElem?_cons_succ, List.getElem?_cons_zero]; exact rfl) (by kernel_rfl) (by kernel_rfl) (by kernel_rfl) (fun _ _ _ h => h) (Or.inl ⟨by rfl, ?y19x19⟩) hHeld ?r19x19
  case y19x19 => (intro w hSw; (try dsimp only at hSw); go_simp; try with_reducible rfl)
  try simp only [Act.put, List.setIfInBounds_toArray, List.set_cons_zero, List.set_cons_succ]
  refine' wpAnyH_take (i := 20) (v := _) (by simp only [List.getElem?_toArray, List.getElem?_cons_succ, List.getElem?_cons_zero]; exact rfl) (by kernel_rfl) (by kernel_rfl) (by kernel_rfl) (fun _ _ _ h => h) (Or.inl ⟨by rfl, ?y20x20⟩) hHeld ?r20x20
  case y20x20 => (intro w hSw; (try dsimp only at hSw); go_simp; try with_reducible rfl)
  try simp only [Act.put, List.setIfInBounds_toArray, List.set_cons_zero, List.set_cons_succ]
  refine' wpAnyH_take (i := 21) (v := _) (by simp only [List.getElem?_toArray, List.getElem?_cons_succ, List.getElem?_cons_zero]; exact rfl) (by kernel_rfl) (by kernel_rfl) (by kernel_rfl) (fun _ _ _ h => h) (Or.inl ⟨by rfl, ?y21x21⟩) hHeld ?r21x21
  case y21x21 => (intro w hSw; (try dsimp only at hSw); go_simp; try with_reducible rfl)
  try simp only [Act.put, List.setIfInBounds_toArray, List.set_cons_zero, List.set_cons_succ]
  refine' wpAnyH_take (i := 22) (v := _) (by simp only [List.getElem?_toArray, List.getElem?_cons_succ, List.getElem?_cons_zero]; exact rfl) (by kernel_rfl) (by kernel_rfl) (by kernel_rfl) (fun _ _ _ h => h) (Or.inl ⟨by rfl, ?y22x22⟩) hHeld ?r22x22
  case y22x22 => (intro w hSw; (try dsimp only at hSw); go_simp; try with_reducible rfl)
  try simp only [Act.put, List.setIfInBounds_toArray, List.set_cons_zero, List.set_cons_succ]
  refine' wpAnyH_take (i := 23) (v := _) (by simp only [List.getElem?_toArray, List.getElem?_cons_succ, List.getElem?_cons_zero]; exact rfl) (by kernel_rfl) (by kernel_rfl) (by kernel_rfl) (fun _ _ _ h => h) (Or.inl ⟨by rfl, ?y23x23⟩) hHeld ?r23x23
  case y23x23 => (intro w hSw; (try dsimp only at hSw); go_simp; try with_reducible rfl)
  try simp only [Act.put, List.setIfInBounds_toArray, List.set_cons_zero, List.set_cons_succ]
  refine' wpAnyH_take (i := 24) (v := _) (by simp only [List.getElem?_toArray, List.getElem?_cons_succ, List.getElem?_cons_zero]; exact rfl) (by kernel_rfl) (by kernel_rfl) (by kernel_rfl) (fun _ _ _ h => h) (Or.inl ⟨by rfl, ?y24x24⟩) hHeld ?r24x24
  case y24x24 => (intro w hSw; (try dsimp only at hSw); go_simp; try with_reducible rfl)
  try simp only [Act.put, List.setIfInBounds_toArray, List.set_cons_zero, List.set_cons_succ]
  refine' wpAnyH_take (i := 25) (v := _) (by simp only [List.getElem?_toArray, List.getElem?_cons_succ, List.getElem?_cons_zero]; exact rfl) (by kernel_rfl) (by kernel_rfl) (by kernel_rfl) (fun _ _ _ h => h) (Or.inl ⟨by rfl, ?y25x25⟩) hHeld ?r25x25
  case y25x25 => (intro w hSw; (try dsimp only at hSw); go_simp; try with_reducible rfl)
  try simp only [Act.put, List.setIfInBounds_toArray, List.set_cons_zero, List.set_cons_succ]
  refine' wpAnyH_take (i := 26) (v := _) (by simp only [List.getElem?_toArray, List.getElem?_cons_succ, List.getElem?_cons_zero]; exact rfl) (by kernel_rfl) (by kernel_rfl) (by kernel_rfl) (fun _ _ _ h => h) (Or.inl ⟨by rfl, ?y26x26⟩) hHeld ?r26x26
  case y26x26 => (intro w hSw; (try dsimp only at hSw); go_simp; try with_reducible rfl)
  try simp only [Act.put, List.setIfInBounds_toArray, List.set_cons_zero, List.set_cons_succ]
  refine' wpAnyH_take (i := 27) (v := _) (by simp only [List.getElem?_toArray, List.getElem?_cons_succ, List.getElem?_cons_zero]; exact rfl) (by kernel_rfl) (by kernel_rfl) (by kernel_rfl) (fun _ _ _ h => h) (Or.inl ⟨by rfl, ?y27x27⟩) hHeld ?r27x27
  case y27x27 => (intro w hSw; (try dsimp only at hSw); go_simp; try with_reducible rfl)
  try simp only [Act.put, List.setIfInBounds_toArray, List.set_cons_zero, List.set_cons_succ]
  refine' wpAnyH_take (i := 28) (v := _) (by simp only [List.getElem?_toArray, List.getElem?_cons_succ, List.getElem?_cons_zero]; exact rfl) (by kernel_rfl) (by kernel_rfl) (by kernel_rfl) (fun _ _ _ h => h) (Or.inl ⟨by rfl, ?y28x28⟩) hHeld ?r28x28
  case y28x28 => (intro w hSw; (try dsimp only at hSw); go_simp; try with_reducible rfl)
  try simp only [Act.put, List.setIfInBounds_toArray, List.set_cons_zero, List.set_cons_succ]
  refine' wpAnyH_take (i := 29) (v := _) (by simp only [List.getElem?_toArray, List.getElem?_cons_succ, List.getElem?_cons_zero]; exact rfl) (by kernel_rfl) (by kernel_rfl) (by kernel_rfl) (fun _ _ _ h => h) (Or.inl ⟨by rfl, ?y29x29⟩) hHeld ?r29x29
  case y29x29 => (intro w hSw; (try dsimp only at hSw); go_simp; try with_reducible rfl)
  try simp only [Act.put, List.setIfInBounds_toArray, List.set_cons_zero, List.set_cons_succ]
  refine' wpAnyH_take (i := 30) (v := _) (by simp only [List.getElem?_toArray, List.getElem?_cons_succ, List.getElem?_cons_zero]; exact rfl) (by kernel_rfl) (by kernel_rfl) (by kernel_rfl) (fun _ _ _ h => h) (Or.inl ⟨by rfl, ?y30x30⟩) hHeld ?r30x30
  case y30x30 => (intro w hSw; (try dsimp only at hSw); go_simp; try with_reducible rfl)
  try simp only [Act.put, List.setIfInBounds_toArray, List.set_cons_zero, List.set_cons_succ]
  refine wpAnyH_ready (rs := [15]) (by kernel_rfl) (by simp) ?_
  refine AllReadyH.cons (by simp only [List.getElem?_toArray, List.getElem?_cons_succ, List.getElem?_cons_zero]; exact rfl) (fun K hK => ?_) AllReadyH.nil
  go_simp
  refine (asks_any l v1 v2 v3 k.pos.lo _ l.band.lo v2 fr.lo t.hi _ HK.out HF1.out (HL2.out.below stays_Point hHeld.2.2.2.2.2.2.2.2.2.2.2.2)).mono ?_
  rintro e w' ⟨rfl, hb⟩
  refine hK.out _ _ (stepB hHeld hb) (fun hHeld => ?_)
  clear hK K hb
  try simp only [Act.put, List.setIfInBounds_toArray, List.set_cons_zero, List.set_cons_succ]
  refine wpAnyH_ready (rs := [31]) (by kernel_rfl) (by simp) ?_
  refine AllReadyH.cons (by simp only [List.getElem?_toArray, List.getElem?_cons_succ, List.getElem?_cons_zero]; exact rfl) (fun K hK => ?_) AllReadyH.nil
  go_simp
  refine (asks_any l v1 v2 v3 k.pos.hi _ l.band.hi v3 fr.hi t.lo _ HK.out HF2.out (HL3.out.below stays_Point hHeld.2.2.2.2.2.2.2.2.2.2.2.2)).mono ?_
  rintro e w' ⟨rfl, hb⟩
  refine hK.out _ _ (stepB hHeld hb) (fun hHeld => ?_)
  clear hK K hb
  try simp only [Act.put, List.setIfInBounds_toArray, List.set_cons_zero, List.set_cons_succ]
  refine' wpAnyH_take (i := 32) (v := _) (by simp only [List.getElem?_toArray, List.getElem?_cons_succ, List.getElem?_cons_zero]; exact rfl) (by kernel_rfl) (by kernel_rfl) (by kernel_rfl) (fun _ _ _ h => h) (Or.inl ⟨by rfl, ?y32x31⟩) hHeld ?r32x31
  case y32x31 => (intro w hSw; (try dsimp only at hSw); go_simp; try with_reducible rfl)
  try simp only [Act.put, List.setIfInBounds_toArray, List.set_cons_zero, List.set_cons_succ]
  refine wpAnyH_ready (rs := [33]) (by kernel_rfl) (by simp) ?_
  refine AllReadyH.cons (by simp only [List.getElem?_toArray, List.getElem?_cons_succ, List.getElem?_cons_zero]; exact rfl) (fun K hK => ?_) AllReadyH.nil
  obtain ⟨xx, yy, hrow⟩ := hHeld.2.2.2.2.2.2.2.2.2.2.2.1
  have z0 := fun j => frozen_of_row _ (w.heap.size + 1 + 1 + 1 + 1) j _ _ hrow
  have y0 := rowN hrow 0 xx rfl
  have y1 := rowN hrow 1 yy rfl
  have HROW := Lib.hid (heap_setCell_same _ _ 1 _ _ (.int .i64 (boundsN l k fr t).hi) (heap_setCell_same _ _ 0 _ _ (.int .i64 (boundsN l k fr t).lo) hrow))
  go_simp
  refine hK.out _ _ (stepBS hHeld) (fun hHeld => ?_)
  clear hK K
  try simp only [Act.put, List.setIfInBounds_toArray, List.set_cons_zero, List.set_cons_succ]
  refine wpAnyH_done (by kernel_rfl) ?_ _
  refine NoPanic.normal ?_
  have HBF := Lib.hid hHeld.2.2.2.2.2.2.2.2.2.2.2.2
  go_wp2_with fail
  refine bodyPost_ret (v := .agg #[.int .i64 _, .int .i64 _]) (results_cell_row rfl _ _ _ 50 _ (0, 0) _ rfl HROW.out undSp rfl infoSp) rfl (retS_mk rfl HBF.out)
end Go.Proofs.Ytkoobkcmmfdlhaa
