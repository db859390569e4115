/- bournelaw19.GateBounds returns true. -/
import Derived.Test.YtkoobkcmmfdlhaaUGBase
import Derived.Deep.DeepCutAuto
namespace Go.Proofs.Ytkoobkcmmfdlhaa
open Go.RowKit
theorem st_open {o : Bool} {st : Int} (h : st = if o then 1 else 0) : decide (1 ≤ st) = o := by
  cases o
  · subst h; rfl
  · subst h; rfl
theorem gbounds_law {l : LinkV} {g : GateV} {k : KnownV} {fr tt : SpanV} {v y st : Int} (hl : LinkOk l) (hst : st = if g.opened then 1 else 0) (hg : 0 ≤ g.pos ∧ g.pos ≤ l.positions) (hk : 0 ≤ k.pos.lo ∧ k.pos.hi ≤ l.positions)
    (hp : k.pos.lo ≤ g.pos ∧ g.pos ≤ k.pos.hi) (ho : k.opened.lo ≤ st ∧ st ≤ k.opened.hi) (hv : fr.lo ≤ v ∧ v ≤ fr.hi) (hy : tt.lo ≤ y ∧ y ≤ tt.hi) (h1 : 0 ≤ fr.lo) (h2 : fr.hi ≤ 1125899906842624) (h3 : 0 ≤ tt.lo) (h4 : tt.hi ≤ 1125899906842624) :
    ∃ sl sh a d1 d2 x1 x2 : Int, boundsN l k fr tt = ⟨sl, sh⟩ ∧ askN l g v y = a ∧ boundsN { l with band := ⟨l.rate, l.rate⟩ } ⟨⟨g.pos, g.pos⟩, g.target, ⟨st, st⟩⟩ ⟨v, v⟩ ⟨y, y⟩ = ⟨a, a⟩ ∧
      boundsN l ⟨⟨g.pos, g.pos⟩, g.target, ⟨st, st⟩⟩ fr tt = ⟨d1, d2⟩ ∧ boundsN l k ⟨v, v⟩ ⟨y, y⟩ = ⟨x1, x2⟩ ∧ (sl ≤ a ∧ a ≤ sh) ∧ 0 ≤ a ∧ (sl ≤ d1 ∧ d2 ≤ sh) ∧ (sl ≤ x1 ∧ x2 ≤ sh) ∧
      ∀ c, l.kind = 0 → underC l.band.lo c = true → underC c l.band.hi = true → sl ≤ askN { l with rate := c } g v y ∧ askN { l with rate := c } g v y ≤ sh := by
  have hd := st_open hst
  have o1 : decide (1 ≤ k.opened.lo) = true → g.opened = true := fun h => by
    rw [← hd]; exact decide_eq_true (by have := of_decide_eq_true h; omega)
  have o2 : g.opened = true → decide (1 ≤ k.opened.hi) = true := fun h => by
    rw [← hd] at h; exact decide_eq_true (by have := of_decide_eq_true h; omega)
  have c1 : l.kind = 0 → ∀ x, atC l.band.lo x ≤ atC l.rate x := fun h0 x => by
    rcases hl with h | h | h | h | h
    · exact under_at h.2.2.2.2.1 x
    all_goals (exfalso; omega)
  have c2 : l.kind = 0 → ∀ x, atC l.rate x ≤ atC l.band.hi x := fun h0 x => by
    rcases hl with h | h | h | h | h
    · exact under_at h.2.2.2.2.2.1 x
    all_goals (exfalso; omega)
  have c3 : ∀ c : List PointV, l.kind = 0 → ∀ x, atC c x ≤ atC c x := fun _ _ _ => Int.le_refl _
  have k1 := asks_le (p := k.pos.lo) (p' := g.pos) (o := decide (1 ≤ k.opened.lo)) (o' := g.opened) (c := l.band.lo) (c' := l.rate) (a := fr.lo) (a' := v) (b := tt.hi) (b' := y) hl hk.1 hp.1 hg.2 o1 c1 h1 hv.1 (by omega) (by omega) hy.2 h4
  have k2 := asks_le (p := g.pos) (p' := k.pos.hi) (o := g.opened) (o' := decide (1 ≤ k.opened.hi)) (c := l.rate) (c' := l.band.hi) (a := v) (a' := fr.hi) (b := y) (b' := tt.lo) hl hg.1 hp.2 hk.2 o2 c2 (by omega) hv.2 h2 h3 hy.1 (by omega)
  have k3 := asks_le (p := k.pos.lo) (p' := g.pos) (o := decide (1 ≤ k.opened.lo)) (o' := decide (1 ≤ st)) (c := l.band.lo) (c' := l.band.lo) (a := fr.lo) (a' := fr.lo) (b := tt.hi) (b' := tt.hi) hl hk.1 hp.1 hg.2 (fun h => by rw [hd]; exact o1 h) (c3 _) h1 (Int.le_refl _) (by omega) (by omega) (Int.le_refl _) h4
  have k4 := asks_le (p := g.pos) (p' := k.pos.hi) (o := decide (1 ≤ st)) (o' := decide (1 ≤ k.opened.hi)) (c := l.band.hi) (c' := l.band.hi) (a := fr.hi) (a' := fr.hi) (b := tt.lo) (b' := tt.lo) hl hg.1 hp.2 hk.2 (fun h => o2 (by rw [← hd]; exact h)) (c3 _) (by omega) (Int.le_refl _) h2 h3 (Int.le_refl _) (by omega)
  have k5 := asks_le (p := k.pos.lo) (p' := k.pos.lo) (o := decide (1 ≤ k.opened.lo)) (o' := decide (1 ≤ k.opened.lo)) (c := l.band.lo) (c' := l.band.lo) (a := fr.lo) (a' := v) (b := tt.hi) (b' := y) hl hk.1 (Int.le_refl _) (by omega) id (c3 _) h1 hv.1 (by omega) (by omega) hy.2 h4
  have k6 := asks_le (p := k.pos.hi) (p' := k.pos.hi) (o := decide (1 ≤ k.opened.hi)) (o' := decide (1 ≤ k.opened.hi)) (c := l.band.hi) (c' := l.band.hi) (a := v) (a' := fr.hi) (b := y) (b' := tt.lo) hl (by omega) (Int.le_refl _) hk.2 id (c3 _) (by omega) hv.2 h2 h3 hy.1 (by omega)
  have k7 : ∀ c, l.kind = 0 → underC l.band.lo c = true → underC c l.band.hi = true → asksN l k.pos.lo (decide (1 ≤ k.opened.lo)) l.band.lo fr.lo tt.hi ≤ asksN l g.pos g.opened c v y ∧ asksN l g.pos g.opened c v y ≤ asksN l k.pos.hi (decide (1 ≤ k.opened.hi)) l.band.hi fr.hi tt.lo := fun c h0 q1 q2 =>
    ⟨asks_le (p := k.pos.lo) (p' := g.pos) (o := decide (1 ≤ k.opened.lo)) (o' := g.opened) (c := l.band.lo) (c' := c) (a := fr.lo) (a' := v) (b := tt.hi) (b' := y) hl hk.1 hp.1 hg.2 o1 (fun _ x => under_at q1 x) h1 hv.1 (by omega) (by omega) hy.2 h4,
      asks_le (p := g.pos) (p' := k.pos.hi) (o := g.opened) (o' := decide (1 ≤ k.opened.hi)) (c := c) (c' := l.band.hi) (a := v) (a' := fr.hi) (b := y) (b' := tt.lo) hl hg.1 hp.2 hk.2 o2 (fun _ x => under_at q2 x) (by omega) hv.2 h2 h3 hy.1 (by omega)⟩
  refine ⟨_, _, _, _, _, _, _, rfl, rfl, ?_, rfl, rfl, ⟨k1, k2⟩, (asks_bd hl).1, ⟨k3, k4⟩, ⟨k5, k6⟩, k7⟩
  unfold boundsN askN
  simp only
  rw [hd]
  rfl
theorem stepG {w cur w' : World} {k0 k1 k2 k3 k4 k5 k6 : Nat} {A0 A1 A2 A3 A4 A5 A6 : Obj} (h : cur.heap[k0]? = some A0 ∧ cur.heap[k1]? = some A1 ∧ cur.heap[k2]? = some A2 ∧ cur.heap[k3]? = some A3 ∧ cur.heap[k4]? = some A4 ∧ cur.heap[k5]? = some A5 ∧ cur.heap[k6]? = some A6 ∧ Below w.heap.size w cur) (hb : Below cur.heap.size cur w') : w'.heap[k0]? = some A0 ∧ w'.heap[k1]? = some A1 ∧ w'.heap[k2]? = some A2 ∧ w'.heap[k3]? = some A3 ∧ w'.heap[k4]? = some A4 ∧ w'.heap[k5]? = some A5 ∧ w'.heap[k6]? = some A6 ∧ Below w.heap.size w w' := by
  obtain ⟨a0, a1, a2, a3, a4, a5, a6, d⟩ := h
  exact ⟨blk_below a0 hb (blk_lt a0), blk_below a1 hb (blk_lt a1), blk_below a2 hb (blk_lt a2), blk_below a3 hb (blk_lt a3), blk_below a4 hb (blk_lt a4), blk_below a5 hb (blk_lt a5), blk_below a6 hb (blk_lt a6), d.trans (hb.mono d.size)⟩
theorem stepGN {w cur : World} {k0 k1 k2 k3 k4 k5 k6 : Nat} {A0 A1 A2 A3 A4 A5 A6 : Obj} (h : cur.heap[k0]? = some A0 ∧ cur.heap[k1]? = some A1 ∧ cur.heap[k2]? = some A2 ∧ cur.heap[k3]? = some A3 ∧ cur.heap[k4]? = some A4 ∧ cur.heap[k5]? = some A5 ∧ cur.heap[k6]? = some A6 ∧ Below w.heap.size w cur) (n : Nat) : (cur.drewN n).heap[k0]? = some A0 ∧ (cur.drewN n).heap[k1]? = some A1 ∧ (cur.drewN n).heap[k2]? = some A2 ∧ (cur.drewN n).heap[k3]? = some A3 ∧ (cur.drewN n).heap[k4]? = some A4 ∧ (cur.drewN n).heap[k5]? = some A5 ∧ (cur.drewN n).heap[k6]? = some A6 ∧ Below w.heap.size w (cur.drewN n) := by
  obtain ⟨a0, a1, a2, a3, a4, a5, a6, d⟩ := h
  exact ⟨a0, a1, a2, a3, a4, a5, a6, below_drewN d⟩
theorem stepGA {w cur : World} {k0 k1 k2 k3 k4 k5 k6 : Nat} {A0 A1 A2 A3 A4 A5 A6 : Obj} {o : Obj} (h : cur.heap[k0]? = some A0 ∧ cur.heap[k1]? = some A1 ∧ cur.heap[k2]? = some A2 ∧ cur.heap[k3]? = some A3 ∧ cur.heap[k4]? = some A4 ∧ cur.heap[k5]? = some A5 ∧ cur.heap[k6]? = some A6 ∧ Below w.heap.size w cur) : (cur.alloc o).heap[k0]? = some A0 ∧ (cur.alloc o).heap[k1]? = some A1 ∧ (cur.alloc o).heap[k2]? = some A2 ∧ (cur.alloc o).heap[k3]? = some A3 ∧ (cur.alloc o).heap[k4]? = some A4 ∧ (cur.alloc o).heap[k5]? = some A5 ∧ (cur.alloc o).heap[k6]? = some A6 ∧ Below w.heap.size w (cur.alloc o) := stepG h ((Below.refl _ _).alloc (Nat.le_refl _) o)
theorem stepGS {w cur : World} {b j : Nat} {x : Value} {k0 k1 k2 k3 k4 k5 k6 : Nat} {A0 A1 A2 A3 A4 A5 A6 : Obj} (h : cur.heap[k0]? = some A0 ∧ cur.heap[k1]? = some A1 ∧ cur.heap[k2]? = some A2 ∧ cur.heap[k3]? = some A3 ∧ cur.heap[k4]? = some A4 ∧ cur.heap[k5]? = some A5 ∧ cur.heap[k6]? = some A6 ∧ Below w.heap.size w cur) (hle : w.heap.size ≤ b) (hn0 : k0 ≠ b) (hn1 : k1 ≠ b) (hn2 : k2 ≠ b) (hn3 : k3 ≠ b) (hn4 : k4 ≠ b) (hn5 : k5 ≠ b) (hn6 : k6 ≠ b) : (cur.setCell ⟨b, j, none⟩ x).heap[k0]? = some A0 ∧ (cur.setCell ⟨b, j, none⟩ x).heap[k1]? = some A1 ∧ (cur.setCell ⟨b, j, none⟩ x).heap[k2]? = some A2 ∧ (cur.setCell ⟨b, j, none⟩ x).heap[k3]? = some A3 ∧ (cur.setCell ⟨b, j, none⟩ x).heap[k4]? = some A4 ∧ (cur.setCell ⟨b, j, none⟩ x).heap[k5]? = some A5 ∧ (cur.setCell ⟨b, j, none⟩ x).heap[k6]? = some A6 ∧ Below w.heap.size w (cur.setCell ⟨b, j, none⟩ x) := by
  obtain ⟨a0, a1, a2, a3, a4, a5, a6, d⟩ := h
  have e0 : (cur.setCell ⟨b, j, none⟩ x).heap[k0]? = cur.heap[k0]? := heap_setCell_other _ _ _ _ hn0
  have e1 : (cur.setCell ⟨b, j, none⟩ x).heap[k1]? = cur.heap[k1]? := heap_setCell_other _ _ _ _ hn1
  have e2 : (cur.setCell ⟨b, j, none⟩ x).heap[k2]? = cur.heap[k2]? := heap_setCell_other _ _ _ _ hn2
  have e3 : (cur.setCell ⟨b, j, none⟩ x).heap[k3]? = cur.heap[k3]? := heap_setCell_other _ _ _ _ hn3
  have e4 : (cur.setCell ⟨b, j, none⟩ x).heap[k4]? = cur.heap[k4]? := heap_setCell_other _ _ _ _ hn4
  have e5 : (cur.setCell ⟨b, j, none⟩ x).heap[k5]? = cur.heap[k5]? := heap_setCell_other _ _ _ _ hn5
  have e6 : (cur.setCell ⟨b, j, none⟩ x).heap[k6]? = cur.heap[k6]? := heap_setCell_other _ _ _ _ hn6
  exact ⟨e0.trans a0, e1.trans a1, e2.trans a2, e3.trans a3, e4.trans a4, e5.trans a5, e6.trans a6, d.setCell hle _⟩
theorem stepGU {w cur : World} {k0 k1 k2 k3 k4 k5 k6 : Nat} {A0 A1 A2 A3 A4 A5 A6 : Obj} {n : Nat} (h : (cur.drewN n).heap[k0]? = some A0 ∧ (cur.drewN n).heap[k1]? = some A1 ∧ (cur.drewN n).heap[k2]? = some A2 ∧ (cur.drewN n).heap[k3]? = some A3 ∧ (cur.drewN n).heap[k4]? = some A4 ∧ (cur.drewN n).heap[k5]? = some A5 ∧ (cur.drewN n).heap[k6]? = some A6 ∧ Below w.heap.size w (cur.drewN n)) : cur.heap[k0]? = some A0 ∧ cur.heap[k1]? = some A1 ∧ cur.heap[k2]? = some A2 ∧ cur.heap[k3]? = some A3 ∧ cur.heap[k4]? = some A4 ∧ cur.heap[k5]? = some A5 ∧ cur.heap[k6]? = some A6 ∧ Below w.heap.size w cur := by
  obtain ⟨a0, a1, a2, a3, a4, a5, a6, d⟩ := h
  exact ⟨a0, a1, a2, a3, a4, a5, a6, ⟨d.os, d.tape, d.output, d.size, d.block⟩⟩
theorem stepGc {w cur w' : World} {k0 k1 k2 k3 k4 k5 k6 : Nat} {A0 A1 A2 A3 A4 A5 A6 : Obj} {v0 v1 : Value} (h : cur.heap[k0]? = some A0 ∧ cur.heap[k1]? = some A1 ∧ cur.heap[k2]? = some A2 ∧ cur.heap[k3]? = some A3 ∧ cur.heap[k4]? = some A4 ∧ cur.heap[k5]? = some A5 ∧ cur.heap[k6]? = some A6 ∧ cur.cell? ⟨k1, 0, none⟩ = some v0 ∧ cur.cell? ⟨k1, 1, none⟩ = some v1 ∧ Below w.heap.size w cur) (hb : Below cur.heap.size cur w') : w'.heap[k0]? = some A0 ∧ w'.heap[k1]? = some A1 ∧ w'.heap[k2]? = some A2 ∧ w'.heap[k3]? = some A3 ∧ w'.heap[k4]? = some A4 ∧ w'.heap[k5]? = some A5 ∧ w'.heap[k6]? = some A6 ∧ w'.cell? ⟨k1, 0, none⟩ = some v0 ∧ w'.cell? ⟨k1, 1, none⟩ = some v1 ∧ Below w.heap.size w w' := by
  obtain ⟨a0, a1, a2, a3, a4, a5, a6, c0, c1, d⟩ := h
  exact ⟨blk_below a0 hb (blk_lt a0), blk_below a1 hb (blk_lt a1), blk_below a2 hb (blk_lt a2), blk_below a3 hb (blk_lt a3), blk_below a4 hb (blk_lt a4), blk_below a5 hb (blk_lt a5), blk_below a6 hb (blk_lt a6), (hb.cell (p := ⟨_, 0, none⟩) (blk_lt a1)).trans c0, (hb.cell (p := ⟨_, 1, none⟩) (blk_lt a1)).trans c1, d.trans (hb.mono d.size)⟩
theorem stepGcN {w cur : World} {k0 k1 k2 k3 k4 k5 k6 : Nat} {A0 A1 A2 A3 A4 A5 A6 : Obj} {v0 v1 : Value} (h : cur.heap[k0]? = some A0 ∧ cur.heap[k1]? = some A1 ∧ cur.heap[k2]? = some A2 ∧ cur.heap[k3]? = some A3 ∧ cur.heap[k4]? = some A4 ∧ cur.heap[k5]? = some A5 ∧ cur.heap[k6]? = some A6 ∧ cur.cell? ⟨k1, 0, none⟩ = some v0 ∧ cur.cell? ⟨k1, 1, none⟩ = some v1 ∧ Below w.heap.size w cur) (n : Nat) : (cur.drewN n).heap[k0]? = some A0 ∧ (cur.drewN n).heap[k1]? = some A1 ∧ (cur.drewN n).heap[k2]? = some A2 ∧ (cur.drewN n).heap[k3]? = some A3 ∧ (cur.drewN n).heap[k4]? = some A4 ∧ (cur.drewN n).heap[k5]? = some A5 ∧ (cur.drewN n).heap[k6]? = some A6 ∧ (cur.drewN n).cell? ⟨k1, 0, none⟩ = some v0 ∧ (cur.drewN n).cell? ⟨k1, 1, none⟩ = some v1 ∧ Below w.heap.size w (cur.drewN n) := by
  obtain ⟨a0, a1, a2, a3, a4, a5, a6, c0, c1, d⟩ := h
  exact ⟨a0, a1, a2, a3, a4, a5, a6, c0, c1, below_drewN d⟩
theorem stepGcA {w cur : World} {k0 k1 k2 k3 k4 k5 k6 : Nat} {A0 A1 A2 A3 A4 A5 A6 : Obj} {v0 v1 : Value} {o : Obj} (h : cur.heap[k0]? = some A0 ∧ cur.heap[k1]? = some A1 ∧ cur.heap[k2]? = some A2 ∧ cur.heap[k3]? = some A3 ∧ cur.heap[k4]? = some A4 ∧ cur.heap[k5]? = some A5 ∧ cur.heap[k6]? = some A6 ∧ cur.cell? ⟨k1, 0, none⟩ = some v0 ∧ cur.cell? ⟨k1, 1, none⟩ = some v1 ∧ Below w.heap.size w cur) : (cur.alloc o).heap[k0]? = some A0 ∧ (cur.alloc o).heap[k1]? = some A1 ∧ (cur.alloc o).heap[k2]? = some A2 ∧ (cur.alloc o).heap[k3]? = some A3 ∧ (cur.alloc o).heap[k4]? = some A4 ∧ (cur.alloc o).heap[k5]? = some A5 ∧ (cur.alloc o).heap[k6]? = some A6 ∧ (cur.alloc o).cell? ⟨k1, 0, none⟩ = some v0 ∧ (cur.alloc o).cell? ⟨k1, 1, none⟩ = some v1 ∧ Below w.heap.size w (cur.alloc o) := stepGc h ((Below.refl _ _).alloc (Nat.le_refl _) o)
theorem stepGcS {w cur : World} {b j : Nat} {x : Value} {k0 k1 k2 k3 k4 k5 k6 : Nat} {A0 A1 A2 A3 A4 A5 A6 : Obj} {v0 v1 : Value} (h : cur.heap[k0]? = some A0 ∧ cur.heap[k1]? = some A1 ∧ cur.heap[k2]? = some A2 ∧ cur.heap[k3]? = some A3 ∧ cur.heap[k4]? = some A4 ∧ cur.heap[k5]? = some A5 ∧ cur.heap[k6]? = some A6 ∧ cur.cell? ⟨k1, 0, none⟩ = some v0 ∧ cur.cell? ⟨k1, 1, none⟩ = some v1 ∧ Below w.heap.size w cur) (hle : w.heap.size ≤ b) (hn0 : k0 ≠ b) (hn1 : k1 ≠ b) (hn2 : k2 ≠ b) (hn3 : k3 ≠ b) (hn4 : k4 ≠ b) (hn5 : k5 ≠ b) (hn6 : k6 ≠ b) : (cur.setCell ⟨b, j, none⟩ x).heap[k0]? = some A0 ∧ (cur.setCell ⟨b, j, none⟩ x).heap[k1]? = some A1 ∧ (cur.setCell ⟨b, j, none⟩ x).heap[k2]? = some A2 ∧ (cur.setCell ⟨b, j, none⟩ x).heap[k3]? = some A3 ∧ (cur.setCell ⟨b, j, none⟩ x).heap[k4]? = some A4 ∧ (cur.setCell ⟨b, j, none⟩ x).heap[k5]? = some A5 ∧ (cur.setCell ⟨b, j, none⟩ x).heap[k6]? = some A6 ∧ (cur.setCell ⟨b, j, none⟩ x).cell? ⟨k1, 0, none⟩ = some v0 ∧ (cur.setCell ⟨b, j, none⟩ x).cell? ⟨k1, 1, none⟩ = some v1 ∧ Below w.heap.size w (cur.setCell ⟨b, j, none⟩ x) := by
  obtain ⟨a0, a1, a2, a3, a4, a5, a6, c0, c1, d⟩ := h
  have e0 : (cur.setCell ⟨b, j, none⟩ x).heap[k0]? = cur.heap[k0]? := heap_setCell_other _ _ _ _ hn0
  have e1 : (cur.setCell ⟨b, j, none⟩ x).heap[k1]? = cur.heap[k1]? := heap_setCell_other _ _ _ _ hn1
  have e2 : (cur.setCell ⟨b, j, none⟩ x).heap[k2]? = cur.heap[k2]? := heap_setCell_other _ _ _ _ hn2
  have e3 : (cur.setCell ⟨b, j, none⟩ x).heap[k3]? = cur.heap[k3]? := heap_setCell_other _ _ _ _ hn3
  have e4 : (cur.setCell ⟨b, j, none⟩ x).heap[k4]? = cur.heap[k4]? := heap_setCell_other _ _ _ _ hn4
  have e5 : (cur.setCell ⟨b, j, none⟩ x).heap[k5]? = cur.heap[k5]? := heap_setCell_other _ _ _ _ hn5
  have e6 : (cur.setCell ⟨b, j, none⟩ x).heap[k6]? = cur.heap[k6]? := heap_setCell_other _ _ _ _ hn6
  exact ⟨e0.trans a0, e1.trans a1, e2.trans a2, e3.trans a3, e4.trans a4, e5.trans a5, e6.trans a6, (by rw [← c0]; unfold World.cell?; rw [e1]), (by rw [← c1]; unfold World.cell?; rw [e1]), d.setCell hle _⟩
theorem stepGcU {w cur : World} {k0 k1 k2 k3 k4 k5 k6 : Nat} {A0 A1 A2 A3 A4 A5 A6 : Obj} {v0 v1 : Value} {n : Nat} (h : (cur.drewN n).heap[k0]? = some A0 ∧ (cur.drewN n).heap[k1]? = some A1 ∧ (cur.drewN n).heap[k2]? = some A2 ∧ (cur.drewN n).heap[k3]? = some A3 ∧ (cur.drewN n).heap[k4]? = some A4 ∧ (cur.drewN n).heap[k5]? = some A5 ∧ (cur.drewN n).heap[k6]? = some A6 ∧ (cur.drewN n).cell? ⟨k1, 0, none⟩ = some v0 ∧ (cur.drewN n).cell? ⟨k1, 1, none⟩ = some v1 ∧ Below w.heap.size w (cur.drewN n)) : cur.heap[k0]? = some A0 ∧ cur.heap[k1]? = some A1 ∧ cur.heap[k2]? = some A2 ∧ cur.heap[k3]? = some A3 ∧ cur.heap[k4]? = some A4 ∧ cur.heap[k5]? = some A5 ∧ cur.heap[k6]? = some A6 ∧ cur.cell? ⟨k1, 0, none⟩ = some v0 ∧ cur.cell? ⟨k1, 1, none⟩ = some v1 ∧ Below w.heap.size w cur := by
  obtain ⟨a0, a1, a2, a3, a4, a5, a6, c0, c1, d⟩ := h
  exact ⟨a0, a1, a2, a3, a4, a5, a6, c0, c1, ⟨d.os, d.tape, d.output, d.size, d.block⟩⟩
theorem stepHc {w cur w' : World} {k0 k1 k2 k3 k4 k5 k6 : Nat} {A0 A1 A2 A3 A4 A5 A6 : Obj} {v0 : Value} (h : cur.heap[k0]? = some A0 ∧ cur.heap[k1]? = some A1 ∧ cur.heap[k2]? = some A2 ∧ cur.heap[k3]? = some A3 ∧ cur.heap[k4]? = some A4 ∧ cur.heap[k5]? = some A5 ∧ cur.heap[k6]? = some A6 ∧ cur.cell? ⟨k0, 1, none⟩ = some v0 ∧ Below w.heap.size w cur) (hb : Below cur.heap.size cur w') : w'.heap[k0]? = some A0 ∧ w'.heap[k1]? = some A1 ∧ w'.heap[k2]? = some A2 ∧ w'.heap[k3]? = some A3 ∧ w'.heap[k4]? = some A4 ∧ w'.heap[k5]? = some A5 ∧ w'.heap[k6]? = some A6 ∧ w'.cell? ⟨k0, 1, none⟩ = some v0 ∧ Below w.heap.size w w' := by
  obtain ⟨a0, a1, a2, a3, a4, a5, a6, c0, d⟩ := h
  exact ⟨blk_below a0 hb (blk_lt a0), blk_below a1 hb (blk_lt a1), blk_below a2 hb (blk_lt a2), blk_below a3 hb (blk_lt a3), blk_below a4 hb (blk_lt a4), blk_below a5 hb (blk_lt a5), blk_below a6 hb (blk_lt a6), (hb.cell (p := ⟨_, 1, none⟩) (blk_lt a0)).trans c0, d.trans (hb.mono d.size)⟩
theorem stepHcN {w cur : World} {k0 k1 k2 k3 k4 k5 k6 : Nat} {A0 A1 A2 A3 A4 A5 A6 : Obj} {v0 : Value} (h : cur.heap[k0]? = some A0 ∧ cur.heap[k1]? = some A1 ∧ cur.heap[k2]? = some A2 ∧ cur.heap[k3]? = some A3 ∧ cur.heap[k4]? = some A4 ∧ cur.heap[k5]? = some A5 ∧ cur.heap[k6]? = some A6 ∧ cur.cell? ⟨k0, 1, none⟩ = some v0 ∧ Below w.heap.size w cur) (n : Nat) : (cur.drewN n).heap[k0]? = some A0 ∧ (cur.drewN n).heap[k1]? = some A1 ∧ (cur.drewN n).heap[k2]? = some A2 ∧ (cur.drewN n).heap[k3]? = some A3 ∧ (cur.drewN n).heap[k4]? = some A4 ∧ (cur.drewN n).heap[k5]? = some A5 ∧ (cur.drewN n).heap[k6]? = some A6 ∧ (cur.drewN n).cell? ⟨k0, 1, none⟩ = some v0 ∧ Below w.heap.size w (cur.drewN n) := by
  obtain ⟨a0, a1, a2, a3, a4, a5, a6, c0, d⟩ := h
  exact ⟨a0, a1, a2, a3, a4, a5, a6, c0, below_drewN d⟩
theorem stepHcA {w cur : World} {k0 k1 k2 k3 k4 k5 k6 : Nat} {A0 A1 A2 A3 A4 A5 A6 : Obj} {v0 : Value} {o : Obj} (h : cur.heap[k0]? = some A0 ∧ cur.heap[k1]? = some A1 ∧ cur.heap[k2]? = some A2 ∧ cur.heap[k3]? = some A3 ∧ cur.heap[k4]? = some A4 ∧ cur.heap[k5]? = some A5 ∧ cur.heap[k6]? = some A6 ∧ cur.cell? ⟨k0, 1, none⟩ = some v0 ∧ Below w.heap.size w cur) : (cur.alloc o).heap[k0]? = some A0 ∧ (cur.alloc o).heap[k1]? = some A1 ∧ (cur.alloc o).heap[k2]? = some A2 ∧ (cur.alloc o).heap[k3]? = some A3 ∧ (cur.alloc o).heap[k4]? = some A4 ∧ (cur.alloc o).heap[k5]? = some A5 ∧ (cur.alloc o).heap[k6]? = some A6 ∧ (cur.alloc o).cell? ⟨k0, 1, none⟩ = some v0 ∧ Below w.heap.size w (cur.alloc o) := stepHc h ((Below.refl _ _).alloc (Nat.le_refl _) o)
theorem stepHcS {w cur : World} {b j : Nat} {x : Value} {k0 k1 k2 k3 k4 k5 k6 : Nat} {A0 A1 A2 A3 A4 A5 A6 : Obj} {v0 : Value} (h : cur.heap[k0]? = some A0 ∧ cur.heap[k1]? = some A1 ∧ cur.heap[k2]? = some A2 ∧ cur.heap[k3]? = some A3 ∧ cur.heap[k4]? = some A4 ∧ cur.heap[k5]? = some A5 ∧ cur.heap[k6]? = some A6 ∧ cur.cell? ⟨k0, 1, none⟩ = some v0 ∧ Below w.heap.size w cur) (hle : w.heap.size ≤ b) (hn0 : k0 ≠ b) (hn1 : k1 ≠ b) (hn2 : k2 ≠ b) (hn3 : k3 ≠ b) (hn4 : k4 ≠ b) (hn5 : k5 ≠ b) (hn6 : k6 ≠ b) : (cur.setCell ⟨b, j, none⟩ x).heap[k0]? = some A0 ∧ (cur.setCell ⟨b, j, none⟩ x).heap[k1]? = some A1 ∧ (cur.setCell ⟨b, j, none⟩ x).heap[k2]? = some A2 ∧ (cur.setCell ⟨b, j, none⟩ x).heap[k3]? = some A3 ∧ (cur.setCell ⟨b, j, none⟩ x).heap[k4]? = some A4 ∧ (cur.setCell ⟨b, j, none⟩ x).heap[k5]? = some A5 ∧ (cur.setCell ⟨b, j, none⟩ x).heap[k6]? = some A6 ∧ (cur.setCell ⟨b, j, none⟩ x).cell? ⟨k0, 1, none⟩ = some v0 ∧ Below w.heap.size w (cur.setCell ⟨b, j, none⟩ x) := by
  obtain ⟨a0, a1, a2, a3, a4, a5, a6, c0, d⟩ := h
  have e0 : (cur.setCell ⟨b, j, none⟩ x).heap[k0]? = cur.heap[k0]? := heap_setCell_other _ _ _ _ hn0
  have e1 : (cur.setCell ⟨b, j, none⟩ x).heap[k1]? = cur.heap[k1]? := heap_setCell_other _ _ _ _ hn1
  have e2 : (cur.setCell ⟨b, j, none⟩ x).heap[k2]? = cur.heap[k2]? := heap_setCell_other _ _ _ _ hn2
  have e3 : (cur.setCell ⟨b, j, none⟩ x).heap[k3]? = cur.heap[k3]? := heap_setCell_other _ _ _ _ hn3
  have e4 : (cur.setCell ⟨b, j, none⟩ x).heap[k4]? = cur.heap[k4]? := heap_setCell_other _ _ _ _ hn4
  have e5 : (cur.setCell ⟨b, j, none⟩ x).heap[k5]? = cur.heap[k5]? := heap_setCell_other _ _ _ _ hn5
  have e6 : (cur.setCell ⟨b, j, none⟩ x).heap[k6]? = cur.heap[k6]? := heap_setCell_other _ _ _ _ hn6
  exact ⟨e0.trans a0, e1.trans a1, e2.trans a2, e3.trans a3, e4.trans a4, e5.trans a5, e6.trans a6, (by rw [← c0]; unfold World.cell?; rw [e0]), d.setCell hle _⟩
theorem stepHcU {w cur : World} {k0 k1 k2 k3 k4 k5 k6 : Nat} {A0 A1 A2 A3 A4 A5 A6 : Obj} {v0 : Value} {n : Nat} (h : (cur.drewN n).heap[k0]? = some A0 ∧ (cur.drewN n).heap[k1]? = some A1 ∧ (cur.drewN n).heap[k2]? = some A2 ∧ (cur.drewN n).heap[k3]? = some A3 ∧ (cur.drewN n).heap[k4]? = some A4 ∧ (cur.drewN n).heap[k5]? = some A5 ∧ (cur.drewN n).heap[k6]? = some A6 ∧ (cur.drewN n).cell? ⟨k0, 1, none⟩ = some v0 ∧ Below w.heap.size w (cur.drewN n)) : cur.heap[k0]? = some A0 ∧ cur.heap[k1]? = some A1 ∧ cur.heap[k2]? = some A2 ∧ cur.heap[k3]? = some A3 ∧ cur.heap[k4]? = some A4 ∧ cur.heap[k5]? = some A5 ∧ cur.heap[k6]? = some A6 ∧ cur.cell? ⟨k0, 1, none⟩ = some v0 ∧ Below w.heap.size w cur := by
  obtain ⟨a0, a1, a2, a3, a4, a5, a6, c0, d⟩ := h
  exact ⟨a0, a1, a2, a3, a4, a5, a6, c0, ⟨d.os, d.tape, d.output, d.size, d.block⟩⟩
theorem stepGcZ {w cur : World} {k0 k1 k2 k3 k4 k5 k6 : Nat} {A0 A1 A2 A3 A4 A5 A6 : Obj} {v0 v1 : Value} {o : Obj} (h : cur.heap[k0]? = some A0 ∧ cur.heap[k1]? = some A1 ∧ cur.heap[k2]? = some A2 ∧ cur.heap[k3]? = some A3 ∧ cur.heap[k4]? = some A4 ∧ cur.heap[k5]? = some A5 ∧ cur.heap[k6]? = some A6 ∧ cur.cell? ⟨k1, 0, none⟩ = some v0 ∧ cur.cell? ⟨k1, 1, none⟩ = some v1 ∧ Below w.heap.size w cur) : ∃ b, ((cur.alloc o).heap[k0]? = some A0 ∧ (cur.alloc o).heap[k1]? = some A1 ∧ (cur.alloc o).heap[k2]? = some A2 ∧ (cur.alloc o).heap[k3]? = some A3 ∧ (cur.alloc o).heap[k4]? = some A4 ∧ (cur.alloc o).heap[k5]? = some A5 ∧ (cur.alloc o).heap[k6]? = some A6 ∧ (cur.alloc o).cell? ⟨k1, 0, none⟩ = some v0 ∧ (cur.alloc o).cell? ⟨k1, 1, none⟩ = some v1 ∧ Below w.heap.size w (cur.alloc o)) ∧ (cur.alloc o).heap[b]? = some o ∧ b = cur.heap.size ∧ w.heap.size ≤ b ∧ k0 ≠ b ∧ k1 ≠ b ∧ k2 ≠ b ∧ k3 ≠ b ∧ k4 ≠ b ∧ k5 ≠ b ∧ k6 ≠ b := by
  have h2 := stepGcA (o := o) h
  obtain ⟨a0, a1, a2, a3, a4, a5, a6, c0, c1, d⟩ := h
  exact ⟨_, h2, heap_alloc_new _ _, rfl, d.size, Nat.ne_of_lt (blk_lt a0), Nat.ne_of_lt (blk_lt a1), Nat.ne_of_lt (blk_lt a2), Nat.ne_of_lt (blk_lt a3), Nat.ne_of_lt (blk_lt a4), Nat.ne_of_lt (blk_lt a5), Nat.ne_of_lt (blk_lt a6)⟩
theorem stepGcZd {w cur : World} {k0 k1 k2 k3 k4 k5 k6 : Nat} {A0 A1 A2 A3 A4 A5 A6 : Obj} {v0 v1 : Value} {o : Obj} (h : cur.drew.heap[k0]? = some A0 ∧ cur.drew.heap[k1]? = some A1 ∧ cur.drew.heap[k2]? = some A2 ∧ cur.drew.heap[k3]? = some A3 ∧ cur.drew.heap[k4]? = some A4 ∧ cur.drew.heap[k5]? = some A5 ∧ cur.drew.heap[k6]? = some A6 ∧ cur.drew.cell? ⟨k1, 0, none⟩ = some v0 ∧ cur.drew.cell? ⟨k1, 1, none⟩ = some v1 ∧ Below w.heap.size w cur.drew) : ∃ b, ((cur.alloc o).drew.heap[k0]? = some A0 ∧ (cur.alloc o).drew.heap[k1]? = some A1 ∧ (cur.alloc o).drew.heap[k2]? = some A2 ∧ (cur.alloc o).drew.heap[k3]? = some A3 ∧ (cur.alloc o).drew.heap[k4]? = some A4 ∧ (cur.alloc o).drew.heap[k5]? = some A5 ∧ (cur.alloc o).drew.heap[k6]? = some A6 ∧ (cur.alloc o).drew.cell? ⟨k1, 0, none⟩ = some v0 ∧ (cur.alloc o).drew.cell? ⟨k1, 1, none⟩ = some v1 ∧ Below w.heap.size w (cur.alloc o).drew) ∧ (cur.alloc o).drew.heap[b]? = some o ∧ b = cur.heap.size ∧ w.heap.size ≤ b ∧ k0 ≠ b ∧ k1 ≠ b ∧ k2 ≠ b ∧ k3 ≠ b ∧ k4 ≠ b ∧ k5 ≠ b ∧ k6 ≠ b := by
  obtain ⟨a0, a1, a2, a3, a4, a5, a6, c0, c1, d⟩ := h
  obtain ⟨b, h1, h2, h3, h4, h5⟩ := stepGcZ (o := o) (show cur.heap[k0]? = some A0 ∧ cur.heap[k1]? = some A1 ∧ cur.heap[k2]? = some A2 ∧ cur.heap[k3]? = some A3 ∧ cur.heap[k4]? = some A4 ∧ cur.heap[k5]? = some A5 ∧ cur.heap[k6]? = some A6 ∧ cur.cell? ⟨k1, 0, none⟩ = some v0 ∧ cur.cell? ⟨k1, 1, none⟩ = some v1 ∧ Below w.heap.size w cur from ⟨a0, a1, a2, a3, a4, a5, a6, c0, c1, ⟨d.os, d.tape, d.output, d.size, d.block⟩⟩)
  exact ⟨b, stepGc h1 (Below.refl _ _).drew, h2, h3, h4, h5⟩
theorem stepGcR {w cur : World} {k0 k1 k2 k3 k4 k5 k6 b : Nat} {A0 A1 A2 A3 A4 A5 A6 : Obj} {v0 v1 : Value} {cs : Array Value} (h : cur.heap[k0]? = some A0 ∧ cur.heap[k1]? = some A1 ∧ cur.heap[k2]? = some A2 ∧ cur.heap[k3]? = some A3 ∧ cur.heap[k4]? = some A4 ∧ cur.heap[k5]? = some A5 ∧ cur.heap[k6]? = some A6 ∧ cur.cell? ⟨k1, 0, none⟩ = some v0 ∧ cur.cell? ⟨k1, 1, none⟩ = some v1 ∧ Below w.heap.size w cur) (hle : w.heap.size ≤ b) (n0 : k0 ≠ b) (n1 : k1 ≠ b) (n2 : k2 ≠ b) (n3 : k3 ≠ b) (n4 : k4 ≠ b) (n5 : k5 ≠ b) (n6 : k6 ≠ b) : (cur.setRow b cs).heap[k0]? = some A0 ∧ (cur.setRow b cs).heap[k1]? = some A1 ∧ (cur.setRow b cs).heap[k2]? = some A2 ∧ (cur.setRow b cs).heap[k3]? = some A3 ∧ (cur.setRow b cs).heap[k4]? = some A4 ∧ (cur.setRow b cs).heap[k5]? = some A5 ∧ (cur.setRow b cs).heap[k6]? = some A6 ∧ (cur.setRow b cs).cell? ⟨k1, 0, none⟩ = some v0 ∧ (cur.setRow b cs).cell? ⟨k1, 1, none⟩ = some v1 ∧ Below w.heap.size w (cur.setRow b cs) := by
  obtain ⟨a0, a1, a2, a3, a4, a5, a6, c0, c1, d⟩ := h
  refine ⟨(setRow_other _ _ _ _ n0).trans a0, (setRow_other _ _ _ _ n1).trans a1, (setRow_other _ _ _ _ n2).trans a2, (setRow_other _ _ _ _ n3).trans a3, (setRow_other _ _ _ _ n4).trans a4, (setRow_other _ _ _ _ n5).trans a5, (setRow_other _ _ _ _ n6).trans a6, ?_, ?_, below_setRow d hle _⟩
  · rw [← c0]; unfold World.cell?; rw [setRow_other _ _ _ _ n1]
  · rw [← c1]; unfold World.cell?; rw [setRow_other _ _ _ _ n1]
set_option maxRecDepth 100000 in
set_option maxHeartbeats 16000000 in
theorem gbounds_core (b : BasinV) (p0 p1 p2 p3 p4 p5 p6 p7 : Option Addr) (q0 q1 q2 q3 q4 q5 q6 q7 : Nat) (i : Int) (g : GateV) (k : KnownV) (fr tt : SpanV) (v y : Int) (c : List PointV) (pc : Option Addr) (qc : Nat) (w : World) (hS : BasinS b p0 p1 p2 p3 p4 p5 p6 p7 q0 q1 q2 q3 q4 q5 q6 q7 w) (hnm : b.name.size ≤ maxLen) (hc : LArg RPoint 2 (.slice pc c.length qc) c w) :
    Calls Try.prog 6 #[.agg #[.string b.name, .slice p0 b.owners.length q0, .int .i64 b.cells, .slice p1 b.places.length q1, .slice p2 b.links.length q2, .slice p3 b.towns.length q3, .slice p4 b.gauges.length q4, .slice p5 b.roads.length q5, .slice p6 b.shelters.length q6, .slice p7 b.room.length q7, .int .i64 b.err], .int .i64 i, .agg #[.int .i64 g.pos, .int .i64 g.target, .bool g.stuck, .bool g.opened], .agg #[.int .i64 k.pos.lo, .int .i64 k.pos.hi, .int .i64 k.target, .int .i64 k.opened.lo, .int .i64 k.opened.hi], .agg #[.int .i64 fr.lo, .int .i64 fr.hi], .agg #[.int .i64 tt.lo, .int .i64 tt.hi], .int .i64 v, .int .i64 y, .slice pc c.length qc] w fun e w' => e = .returned (.bool true) ∧ Below w.heap.size w w' := by
  obtain ⟨r0, r1, r2, r3, r4, rb⟩ := five_rowsV (w := w) (A := (.cells #[.string b.name, .slice p0 b.owners.length q0, .int .i64 b.cells, .slice p1 b.places.length q1, .slice p2 b.links.length q2, .slice p3 b.towns.length q3, .slice p4 b.gauges.length q4, .slice p5 b.roads.length q5, .slice p6 b.shelters.length q6, .slice p7 b.room.length q7, .int .i64 b.err] 45)) (B := (.cells #[.int .i64 g.pos, .int .i64 g.target, .bool g.stuck, .bool g.opened] 28)) (C := (.cells #[.int .i64 k.pos.lo, .int .i64 k.pos.hi, .int .i64 k.target, .int .i64 k.opened.lo, .int .i64 k.opened.hi] 52)) (D := (.cells #[.int .i64 fr.lo, .int .i64 fr.hi] 50)) (E := (.cells #[.int .i64 tt.lo, .int .i64 tt.hi] 50))
  have HS := Lib.hid hS
  have HNM := Lib.hid hnm
  have HC := Lib.hid hc
  obtain ⟨-, -, hcn, hcm⟩ := hc.slice
  clear hS hnm hc
  go_enter Try.func6, Try.ntmps6
  go_upto_region 1 with fail
  generalize (((((w.alloc (.cells #[.string b.name, .slice p0 b.owners.length q0, .int .i64 b.cells, .slice p1 b.places.length q1, .slice p2 b.links.length q2, .slice p3 b.towns.length q3, .slice p4 b.gauges.length q4, .slice p5 b.roads.length q5, .slice p6 b.shelters.length q6, .slice p7 b.room.length q7, .int .i64 b.err] 45)).alloc (.cells #[.int .i64 g.pos, .int .i64 g.target, .bool g.stuck, .bool g.opened] 28)).alloc (.cells #[.int .i64 k.pos.lo, .int .i64 k.pos.hi, .int .i64 k.target, .int .i64 k.opened.lo, .int .i64 k.opened.hi] 52)).alloc (.cells #[.int .i64 fr.lo, .int .i64 fr.hi] 50)).alloc (.cells #[.int .i64 tt.lo, .int .i64 tt.hi] 50)) = w0 at *
  have Bh0 := Lib.hid r0
  have Gh0 := Lib.hid r1
  have Kh0 := Lib.hid r2
  have Fh0 := Lib.hid r3
  have Th0 := Lib.hid r4
  have HB0 := Lib.hid rb
  clear r0 r1 r2 r3 r4 rb
  go_wp2_with fail
  refine (small_any _).mono ?_
  rintro e w1 ⟨rfl, hb⟩
  have HB1 := Lib.hid (HB0.out.trans (hb.mono HB0.out.size))
  have Bh1 := Lib.hid (blk_below Bh0.out hb (blk_lt Bh0.out))
  have Gh1 := Lib.hid (blk_below Gh0.out hb (blk_lt Gh0.out))
  have Kh1 := Lib.hid (blk_below Kh0.out hb (blk_lt Kh0.out))
  have Fh1 := Lib.hid (blk_below Fh0.out hb (blk_lt Fh0.out))
  have Th1 := Lib.hid (blk_below Th0.out hb (blk_lt Th0.out))
  clear HB0 Bh0 Gh0 Kh0 Fh0 Th0
  clear hb
  by_cases t0 : (40 : Int) < (c.length : Int)
  · go_wp2_with fail
    go_ret
    exact ⟨rfl, HB1.out⟩
  go_wp2_with (first | (refine wpList_load_rowW (by first | (go_simp; done) | rfl) 45 _ rfl _ rfl 45 _ _ _ Bh1.out undBa rfl infoBa ?_))
  refine (light_any b _ _ _ _ _ _ _ _ _ _ _ _ _ _ _ _ _ (HS.out.below HB1.out) HNM.out).mono ?_
  rintro e w2 ⟨b1, hq, rfl, hb⟩
  have HB2 := Lib.hid (HB1.out.trans (hb.mono HB1.out.size))
  have Bh2 := Lib.hid (blk_below Bh1.out hb (blk_lt Bh1.out))
  have Gh2 := Lib.hid (blk_below Gh1.out hb (blk_lt Gh1.out))
  have Kh2 := Lib.hid (blk_below Kh1.out hb (blk_lt Kh1.out))
  have Fh2 := Lib.hid (blk_below Fh1.out hb (blk_lt Fh1.out))
  have Th2 := Lib.hid (blk_below Th1.out hb (blk_lt Th1.out))
  clear HB1 Bh1 Gh1 Kh1 Fh1 Th1
  clear hb
  have HQ := Lib.hid hq
  clear hq
  cases b1
  · go_wp2_with fail
    go_ret
    exact ⟨rfl, HB2.out⟩
  have HRB := Lib.hid (HQ.out (by trivial))
  clear HQ
  by_cases t1 : i < 0
  · go_wp2_with fail
    go_ret
    exact ⟨rfl, HB2.out⟩
  have cB4 := rowN Bh2.out 4 (.slice p2 b.links.length q2) rfl
  by_cases t2 : (b.links.length : Int) ≤ i
  · go_wp2_with fail
    go_ret
    exact ⟨rfl, HB2.out⟩
  go_wp2_with (first | (refine wpList_load_rowW (by first | (go_simp; done) | rfl) 50 _ rfl _ rfl 50 _ _ _ Fh2.out undSp rfl infoSp ?_))
  refine (rightS_any fr _).mono ?_
  rintro e w3 ⟨rfl, hb⟩
  have HB3 := Lib.hid (HB2.out.trans (hb.mono HB2.out.size))
  have Bh3 := Lib.hid (blk_below Bh2.out hb (blk_lt Bh2.out))
  have Gh3 := Lib.hid (blk_below Gh2.out hb (blk_lt Gh2.out))
  have Kh3 := Lib.hid (blk_below Kh2.out hb (blk_lt Kh2.out))
  have Fh3 := Lib.hid (blk_below Fh2.out hb (blk_lt Fh2.out))
  have Th3 := Lib.hid (blk_below Th2.out hb (blk_lt Th2.out))
  clear HB2 Bh2 Gh2 Kh2 Fh2 Th2
  clear hb
  cases hR : decide (fr.lo ≤ fr.hi)
  · go_wp2_with fail
    go_ret
    exact ⟨rfl, HB3.out⟩
  have HR1 := Lib.hid (of_decide_eq_true hR)
  clear hR cB4
  go_wp2_with (first | (refine wpList_load_rowW (by first | (go_simp; done) | rfl) 50 _ rfl _ rfl 50 _ _ _ Th3.out undSp rfl infoSp ?_))
  refine (rightS_any tt _).mono ?_
  rintro e w4 ⟨rfl, hb⟩
  have HB4 := Lib.hid (HB3.out.trans (hb.mono HB3.out.size))
  have Bh4 := Lib.hid (blk_below Bh3.out hb (blk_lt Bh3.out))
  have Gh4 := Lib.hid (blk_below Gh3.out hb (blk_lt Gh3.out))
  have Kh4 := Lib.hid (blk_below Kh3.out hb (blk_lt Kh3.out))
  have Fh4 := Lib.hid (blk_below Fh3.out hb (blk_lt Fh3.out))
  have Th4 := Lib.hid (blk_below Th3.out hb (blk_lt Th3.out))
  clear HB3 Bh3 Gh3 Kh3 Fh3 Th3
  clear hb
  cases hR : decide (tt.lo ≤ tt.hi)
  · go_wp2_with fail
    go_ret
    exact ⟨rfl, HB4.out⟩
  have HR2 := Lib.hid (of_decide_eq_true hR)
  clear hR
  have cF0 := rowN Fh4.out 0 (.int .i64 fr.lo) rfl
  have cF1 := rowN Fh4.out 1 (.int .i64 fr.hi) rfl
  have cT0 := rowN Th4.out 0 (.int .i64 tt.lo) rfl
  have cT1 := rowN Th4.out 1 (.int .i64 tt.hi) rfl
  by_cases t3 : fr.lo < 0
  · go_wp2_with fail
    go_ret
    exact ⟨rfl, HB4.out⟩
  by_cases t4 : tt.lo < 0
  · go_wp2_with fail
    go_ret
    exact ⟨rfl, HB4.out⟩
  by_cases t5 : 1125899906842624 < fr.hi
  · go_wp2_with fail
    go_ret
    exact ⟨rfl, HB4.out⟩
  by_cases t6 : 1125899906842624 < tt.hi
  · go_wp2_with fail
    go_ret
    exact ⟨rfl, HB4.out⟩
  obtain ⟨n, rfl⟩ : ∃ n : Nat, i = (n : Int) := ⟨i.toNat, by omega⟩
  have hlt : n < b.links.length := by omega
  clear t1 t2
  obtain ⟨l, hx⟩ : ∃ l, b.links[n]? = some l := ⟨_, List.getElem?_eq_getElem hlt⟩
  have HLK := Lib.hid (linkOk_of HRB.out (List.mem_of_getElem? hx))
  skip
  obtain ⟨ga, oa, cs, ha, hbl, -, hrg, hcs⟩ := HS.out.l2.at hx
  subst ha
  obtain ⟨v0, v1, v2, rfl, -, ik, -, -, -, isp, ilk, icr, -, -, -, -, -, -, -, hv0, hv1, hv2⟩ := hcs
  obtain ⟨a0, n0, rfl, -, -⟩ := hv0.slice
  obtain ⟨a1, n1, rfl, -, -⟩ := hv1.slice
  obtain ⟨a2, n2, rfl, -, -⟩ := hv2.slice
  have HX := Lib.hid hx
  have ISP := Lib.hid (I64.of isp)
  have ILK := Lib.hid (I64.of ilk)
  have ICR := Lib.hid (I64.of icr)
  have hst : Below w4.heap.size w4 (w4.alloc (.cells #[.string l.name, .int .i64 l.kind, .int .i64 l.src, .int .i64 l.dst, .slice a0 l.rate.length n0, .slice a1 l.band.lo.length n1, .slice a2 l.band.hi.length n2, .int .i64 l.positions, .int .i64 l.speed, .int .i64 l.leak, .int .i64 l.crest, .int .i64 l.num, .int .i64 l.den, .int .i64 l.prime, .int .i64 l.brk, .int .i64 l.backNum, .int .i64 l.backDen, .int .i64 l.delay] 26)) := (Below.refl _ _).alloc (Nat.le_refl _) (.cells #[.string l.name, .int .i64 l.kind, .int .i64 l.src, .int .i64 l.dst, .slice a0 l.rate.length n0, .slice a1 l.band.lo.length n1, .slice a2 l.band.hi.length n2, .int .i64 l.positions, .int .i64 l.speed, .int .i64 l.leak, .int .i64 l.crest, .int .i64 l.num, .int .i64 l.den, .int .i64 l.prime, .int .i64 l.brk, .int .i64 l.backNum, .int .i64 l.backDen, .int .i64 l.delay] 26)
  have Gh5 := Lib.hid (blk_below Gh4.out hst (blk_lt Gh4.out))
  have Kh5 := Lib.hid (blk_below Kh4.out hst (blk_lt Kh4.out))
  have Fh5 := Lib.hid (blk_below Fh4.out hst (blk_lt Fh4.out))
  have Th5 := Lib.hid (blk_below Th4.out hst (blk_lt Th4.out))
  have HB5 := Lib.hid (HB4.out.alloc HB4.out.size (.cells #[.string l.name, .int .i64 l.kind, .int .i64 l.src, .int .i64 l.dst, .slice a0 l.rate.length n0, .slice a1 l.band.lo.length n1, .slice a2 l.band.hi.length n2, .int .i64 l.positions, .int .i64 l.speed, .int .i64 l.leak, .int .i64 l.crest, .int .i64 l.num, .int .i64 l.den, .int .i64 l.prime, .int .i64 l.brk, .int .i64 l.backNum, .int .i64 l.backDen, .int .i64 l.delay] 26))
  have Lh5 := Lib.hid (heap_alloc_new w4 (.cells #[.string l.name, .int .i64 l.kind, .int .i64 l.src, .int .i64 l.dst, .slice a0 l.rate.length n0, .slice a1 l.band.lo.length n1, .slice a2 l.band.hi.length n2, .int .i64 l.positions, .int .i64 l.speed, .int .i64 l.leak, .int .i64 l.crest, .int .i64 l.num, .int .i64 l.den, .int .i64 l.prime, .int .i64 l.brk, .int .i64 l.backNum, .int .i64 l.backDen, .int .i64 l.delay] 26))
  have HRG := Lib.hid (rangeAt_below hrg HB4.out hbl)
  have HW0 := Lib.hid hv0
  have HW1 := Lib.hid hv1
  have HW2 := Lib.hid hv2
  clear hrg hx hv0 hv1 hv2 hst ik isp ilk icr
  have cB4 := rowN Bh4.out 4 (.slice (some ⟨ga, oa, none⟩) b.links.length q2) rfl
  go_upto_region 5 with (first | (refine wpList_load_range (by rfl) 26 _ rfl _ _ rfl _ _ HRG.out undLk rfl infoLk ?_) | (refine wpList_store_row rfl 26 _ _ rfl w4.heap.size #[.string l.name, .int .i64 l.kind, .int .i64 l.src, .int .i64 l.dst, .slice a0 l.rate.length n0, .slice a1 l.band.lo.length n1, .slice a2 l.band.hi.length n2, .int .i64 l.positions, .int .i64 l.speed, .int .i64 l.leak, .int .i64 l.crest, .int .i64 l.num, .int .i64 l.den, .int .i64 l.prime, .int .i64 l.brk, .int .i64 l.backNum, .int .i64 l.backDen, .int .i64 l.delay] rfl rfl 26 #[.string ⟨#[]⟩, .int .i64 0, .int .i64 0, .int .i64 0, .slice none 0 0, .slice none 0 0, .slice none 0 0, .int .i64 0, .int .i64 0, .int .i64 0, .int .i64 0, .int .i64 0, .int .i64 0, .int .i64 0, .int .i64 0, .int .i64 0, .int .i64 0, .int .i64 0] (heap_alloc_new w4 (.cells #[.string ⟨#[]⟩, .int .i64 0, .int .i64 0, .int .i64 0, .slice none 0 0, .slice none 0 0, .slice none 0 0, .int .i64 0, .int .i64 0, .int .i64 0, .int .i64 0, .int .i64 0, .int .i64 0, .int .i64 0, .int .i64 0, .int .i64 0, .int .i64 0, .int .i64 0] 26)) infoLk rfl (by simp [Value.oneCell']) ?_))
  rw [World.setRow_alloc_new]
  clear cB4 HRG HB4 Bh4 Gh4 Kh4 Fh4 Th4
  generalize w4.alloc (.cells #[.string l.name, .int .i64 l.kind, .int .i64 l.src, .int .i64 l.dst, .slice a0 l.rate.length n0, .slice a1 l.band.lo.length n1, .slice a2 l.band.hi.length n2, .int .i64 l.positions, .int .i64 l.speed, .int .i64 l.leak, .int .i64 l.crest, .int .i64 l.num, .int .i64 l.den, .int .i64 l.prime, .int .i64 l.brk, .int .i64 l.backNum, .int .i64 l.backDen, .int .i64 l.delay] 26) = w5 at *
  generalize w4.heap.size = bL at *
  clear cF0 cF1 cT0 cT1
  have FT : Hid (0 ≤ fr.lo ∧ fr.hi ≤ 1125899906842624 ∧ 0 ≤ tt.lo ∧ tt.hi ≤ 1125899906842624) := Lib.hid ⟨by omega, by omega, by omega, by omega⟩
  clear t0 t3 t4 t5 t6
  obtain ⟨o, ho⟩ : ∃ o : Bool, o = g.opened := ⟨_, rfl⟩
  have cG3 : w5.cell? ⟨w.heap.size + 1, 3, none⟩ = some (.bool o) := by rw [ho]; exact rowN Gh5.out 3 _ rfl
  have HO := Lib.hid ho
  clear ho
  go_upto_if 84 with fail
  have HST : Hid (∃ st : Int, st = if g.opened then 1 else 0) := Lib.hid ⟨_, rfl⟩
  obtain ⟨st, hst⟩ := HST.out
  have HST := Lib.hid hst
  clear hst
  go_cut [21] (fun s21 wx => s21 = .int .i64 st ∧ wx = w5)
  case first =>
    have hst := HST.out
    rw [← HO.out] at hst
    cases o
    · have hst2 : st = 0 := hst
      clear hst
      go_wp2_with fail
      go_meet
      exact ⟨by rw [hst2], rfl⟩
    · have hst2 : st = 1 := hst
      clear hst
      go_wp2_with fail
      go_meet
      exact ⟨by rw [hst2], rfl⟩
  clear cG3
  obtain ⟨rfl, rfl⟩ := hcut
  go_wp2_with (first | (refine wpList_load_rowW (by first | (go_simp; done) | rfl) 26 _ rfl _ rfl 26 _ _ _ Lh5.out undLk rfl infoLk ?_) | (refine wpList_load_rowW (by first | (go_simp; done) | rfl) 28 _ rfl _ rfl 28 _ _ _ Gh5.out undGt rfl infoGt ?_))
  refine (valid_any l (.slice a0 l.rate.length n0) (.slice a1 l.band.lo.length n1) (.slice a2 l.band.hi.length n2) g _).mono ?_
  rintro e w6 ⟨rfl, hb⟩
  have HB6 := Lib.hid (HB5.out.trans (hb.mono HB5.out.size))
  have Lh6 := Lib.hid (blk_below Lh5.out hb (blk_lt Lh5.out))
  have Gh6 := Lib.hid (blk_below Gh5.out hb (blk_lt Gh5.out))
  have Kh6 := Lib.hid (blk_below Kh5.out hb (blk_lt Kh5.out))
  have Fh6 := Lib.hid (blk_below Fh5.out hb (blk_lt Fh5.out))
  have Th6 := Lib.hid (blk_below Th5.out hb (blk_lt Th5.out))
  clear HB5 Lh5 Gh5 Kh5 Fh5 Th5
  clear hb
  cases hV : decide (ValidG l g)
  · go_wp2_with fail
    go_ret
    exact ⟨rfl, HB6.out⟩
  have HV := Lib.hid (of_decide_eq_true hV)
  clear hV
  have cK0 := rowN Kh6.out 0 (.int .i64 k.pos.lo) rfl
  have cK1 := rowN Kh6.out 1 (.int .i64 k.pos.hi) rfl
  have cL7 := rowN Lh6.out 7 (.int .i64 l.positions) rfl
  by_cases t1 : k.pos.lo < 0
  · go_wp2_with fail
    go_ret
    exact ⟨rfl, HB6.out⟩
  by_cases t2 : l.positions < k.pos.hi
  · go_wp2_with fail
    go_ret
    exact ⟨rfl, HB6.out⟩
  go_wp2_with (first | (refine wpList_load_rowW (by first | (go_simp; done) | rfl) 50 _ rfl _ rfl 50 _ _ _ Fh6.out undSp rfl infoSp ?_))
  refine (has_any fr v _).mono ?_
  rintro e w7 ⟨rfl, hb⟩
  have HB7 := Lib.hid (HB6.out.trans (hb.mono HB6.out.size))
  have Lh7 := Lib.hid (blk_below Lh6.out hb (blk_lt Lh6.out))
  have Gh7 := Lib.hid (blk_below Gh6.out hb (blk_lt Gh6.out))
  have Kh7 := Lib.hid (blk_below Kh6.out hb (blk_lt Kh6.out))
  have Fh7 := Lib.hid (blk_below Fh6.out hb (blk_lt Fh6.out))
  have Th7 := Lib.hid (blk_below Th6.out hb (blk_lt Th6.out))
  clear HB6 Lh6 Gh6 Kh6 Fh6 Th6
  clear hb
  cases hH : hasS fr v
  · go_wp2_with fail
    go_ret
    exact ⟨rfl, HB7.out⟩
  have HV1 := Lib.hid (hasS_iff.1 hH)
  clear hH cK0 cK1 cL7
  go_wp2_with (first | (refine wpList_load_rowW (by first | (go_simp; done) | rfl) 50 _ rfl _ rfl 50 _ _ _ Th7.out undSp rfl infoSp ?_))
  refine (has_any tt y _).mono ?_
  rintro e w8 ⟨rfl, hb⟩
  have HB8 := Lib.hid (HB7.out.trans (hb.mono HB7.out.size))
  have Lh8 := Lib.hid (blk_below Lh7.out hb (blk_lt Lh7.out))
  have Gh8 := Lib.hid (blk_below Gh7.out hb (blk_lt Gh7.out))
  have Kh8 := Lib.hid (blk_below Kh7.out hb (blk_lt Kh7.out))
  have Fh8 := Lib.hid (blk_below Fh7.out hb (blk_lt Fh7.out))
  have Th8 := Lib.hid (blk_below Th7.out hb (blk_lt Th7.out))
  clear HB7 Lh7 Gh7 Kh7 Fh7 Th7
  clear hb
  cases hH : hasS tt y
  · go_wp2_with fail
    go_ret
    exact ⟨rfl, HB8.out⟩
  have HV2 := Lib.hid (hasS_iff.1 hH)
  clear hH
  have cG0 := rowN Gh8.out 0 (.int .i64 g.pos) rfl
  go_wp2_with (first | (refine wpList_load_range (by first | (go_simp; done) | rfl) 50 _ rfl _ _ rfl _ _ (range2 (rowN Kh8.out 0 (.int .i64 k.pos.lo) rfl) (rowN Kh8.out 1 (.int .i64 k.pos.hi) rfl)) undSp rfl infoSp ?_))
  refine (has_any k.pos g.pos _).mono ?_
  rintro e w9 ⟨rfl, hb⟩
  have HB9 := Lib.hid (HB8.out.trans (hb.mono HB8.out.size))
  have Lh9 := Lib.hid (blk_below Lh8.out hb (blk_lt Lh8.out))
  have Gh9 := Lib.hid (blk_below Gh8.out hb (blk_lt Gh8.out))
  have Kh9 := Lib.hid (blk_below Kh8.out hb (blk_lt Kh8.out))
  have Fh9 := Lib.hid (blk_below Fh8.out hb (blk_lt Fh8.out))
  have Th9 := Lib.hid (blk_below Th8.out hb (blk_lt Th8.out))
  clear HB8 Lh8 Gh8 Kh8 Fh8 Th8
  clear hb
  cases hH : hasS k.pos g.pos
  · go_wp2_with fail
    go_ret
    exact ⟨rfl, HB9.out⟩
  have HV3 := Lib.hid (hasS_iff.1 hH)
  clear hH cG0
  go_wp2_with (first | (refine wpList_load_range (by first | (go_simp; done) | rfl) 50 _ rfl _ _ rfl _ _ (range2 (rowN Kh9.out 3 (.int .i64 k.opened.lo) rfl) (rowN Kh9.out 4 (.int .i64 k.opened.hi) rfl)) undSp rfl infoSp ?_))
  refine (has_any k.opened st _).mono ?_
  rintro e w10 ⟨rfl, hb⟩
  have HB10 := Lib.hid (HB9.out.trans (hb.mono HB9.out.size))
  have Lh10 := Lib.hid (blk_below Lh9.out hb (blk_lt Lh9.out))
  have Gh10 := Lib.hid (blk_below Gh9.out hb (blk_lt Gh9.out))
  have Kh10 := Lib.hid (blk_below Kh9.out hb (blk_lt Kh9.out))
  have Fh10 := Lib.hid (blk_below Fh9.out hb (blk_lt Fh9.out))
  have Th10 := Lib.hid (blk_below Th9.out hb (blk_lt Th9.out))
  clear HB9 Lh9 Gh9 Kh9 Fh9 Th9
  clear hb
  cases hH : hasS k.opened st
  · go_wp2_with fail
    go_ret
    exact ⟨rfl, HB10.out⟩
  have HV4 := Lib.hid (hasS_iff.1 hH)
  clear hH
  obtain ⟨sl, sh, a, d1, d2, x1, x2, e1, e2, e3, e4, e5, m1, m2, m3, m4, m5⟩ := gbounds_law (l := l) (g := g) (k := k) (fr := fr) (tt := tt) (v := v) (y := y) (st := st) HLK.out HST.out ⟨HV.out.1, HV.out.2.1⟩ ⟨by omega, by omega⟩ HV3.out HV4.out HV1.out HV2.out FT.out.1 FT.out.2.1 FT.out.2.2.1 FT.out.2.2.2
  have LB := Lib.hid (linkB_of HLK.out ILK.out ICR.out)
  have IF1 : Hid (I64 fr.lo) := Lib.hid ⟨by have := FT.out.1; omega, by have := FT.out.2.1; have := HR1.out; omega⟩
  have IF2 : Hid (I64 fr.hi) := Lib.hid ⟨by have := FT.out.1; have := HR1.out; omega, by have := FT.out.2.1; omega⟩
  have IV : Hid (I64 v) := Lib.hid ⟨by have := FT.out.1; have := HV1.out; omega, by have := FT.out.2.1; have := HV1.out; omega⟩
  have C1 : Hid (∀ W, Below w.heap.size w W → Calls Try.prog 20 #[.agg #[.string l.name, .int .i64 l.kind, .int .i64 l.src, .int .i64 l.dst, .slice a0 l.rate.length n0, .slice a1 l.band.lo.length n1, .slice a2 l.band.hi.length n2, .int .i64 l.positions, .int .i64 l.speed, .int .i64 l.leak, .int .i64 l.crest, .int .i64 l.num, .int .i64 l.den, .int .i64 l.prime, .int .i64 l.brk, .int .i64 l.backNum, .int .i64 l.backDen, .int .i64 l.delay], .agg #[.int .i64 k.pos.lo, .int .i64 k.pos.hi, .int .i64 k.target, .int .i64 k.opened.lo, .int .i64 k.opened.hi], .agg #[.int .i64 fr.lo, .int .i64 fr.hi], .agg #[.int .i64 tt.lo, .int .i64 tt.hi]] W (fun e W' => e = .returned (.agg #[.int .i64 sl, .int .i64 sh]) ∧ Below W.heap.size W W')) := Lib.hid fun W hb => by have h := bounds_any l (.slice a0 l.rate.length n0) (.slice a1 l.band.lo.length n1) (.slice a2 l.band.hi.length n2) k fr tt W LB.out IF1.out IF2.out (HW1.out.below stays_Point hb) (HW2.out.below stays_Point hb); rw [e1] at h; exact h
  have C2 : Hid (∀ W, Below w.heap.size w W → Calls Try.prog 15 #[.agg #[.string l.name, .int .i64 l.kind, .int .i64 l.src, .int .i64 l.dst, .slice a0 l.rate.length n0, .slice a1 l.band.lo.length n1, .slice a2 l.band.hi.length n2, .int .i64 l.positions, .int .i64 l.speed, .int .i64 l.leak, .int .i64 l.crest, .int .i64 l.num, .int .i64 l.den, .int .i64 l.prime, .int .i64 l.brk, .int .i64 l.backNum, .int .i64 l.backDen, .int .i64 l.delay], .agg #[.int .i64 g.pos, .int .i64 g.target, .bool g.stuck, .bool g.opened], .int .i64 v, .int .i64 y] W (fun e W' => e = .returned (.int .i64 a) ∧ Below W.heap.size W W')) := Lib.hid fun W hb => by have h := ask_any l (.slice a0 l.rate.length n0) (.slice a1 l.band.lo.length n1) (.slice a2 l.band.hi.length n2) g v y W LB.out IV.out (HW0.out.below stays_Point hb); rw [e2] at h; exact h
  have C3 : Hid (∀ W, Below w.heap.size w W → Calls Try.prog 20 #[.agg #[.string l.name, .int .i64 l.kind, .int .i64 l.src, .int .i64 l.dst, .slice a0 l.rate.length n0, .slice a0 l.rate.length n0, .slice a0 l.rate.length n0, .int .i64 l.positions, .int .i64 l.speed, .int .i64 l.leak, .int .i64 l.crest, .int .i64 l.num, .int .i64 l.den, .int .i64 l.prime, .int .i64 l.brk, .int .i64 l.backNum, .int .i64 l.backDen, .int .i64 l.delay], .agg #[.int .i64 g.pos, .int .i64 g.pos, .int .i64 g.target, .int .i64 st, .int .i64 st], .agg #[.int .i64 v, .int .i64 v], .agg #[.int .i64 y, .int .i64 y]] W (fun e W' => e = .returned (.agg #[.int .i64 a, .int .i64 a]) ∧ Below W.heap.size W W')) := Lib.hid fun W hb => by have h := bounds_any { l with band := ⟨l.rate, l.rate⟩ } (.slice a0 l.rate.length n0) (.slice a0 l.rate.length n0) (.slice a0 l.rate.length n0) ⟨⟨g.pos, g.pos⟩, g.target, ⟨st, st⟩⟩ ⟨v, v⟩ ⟨y, y⟩ W LB.out IV.out IV.out (HW0.out.below stays_Point hb) (HW0.out.below stays_Point hb); rw [e3] at h; exact h
  have C4 : Hid (∀ W, Below w.heap.size w W → Calls Try.prog 20 #[.agg #[.string l.name, .int .i64 l.kind, .int .i64 l.src, .int .i64 l.dst, .slice a0 l.rate.length n0, .slice a1 l.band.lo.length n1, .slice a2 l.band.hi.length n2, .int .i64 l.positions, .int .i64 l.speed, .int .i64 l.leak, .int .i64 l.crest, .int .i64 l.num, .int .i64 l.den, .int .i64 l.prime, .int .i64 l.brk, .int .i64 l.backNum, .int .i64 l.backDen, .int .i64 l.delay], .agg #[.int .i64 g.pos, .int .i64 g.pos, .int .i64 g.target, .int .i64 st, .int .i64 st], .agg #[.int .i64 fr.lo, .int .i64 fr.hi], .agg #[.int .i64 tt.lo, .int .i64 tt.hi]] W (fun e W' => e = .returned (.agg #[.int .i64 d1, .int .i64 d2]) ∧ Below W.heap.size W W')) := Lib.hid fun W hb => by have h := bounds_any l (.slice a0 l.rate.length n0) (.slice a1 l.band.lo.length n1) (.slice a2 l.band.hi.length n2) ⟨⟨g.pos, g.pos⟩, g.target, ⟨st, st⟩⟩ fr tt W LB.out IF1.out IF2.out (HW1.out.below stays_Point hb) (HW2.out.below stays_Point hb); rw [e4] at h; exact h
  have C5 : Hid (∀ W, Below w.heap.size w W → Calls Try.prog 20 #[.agg #[.string l.name, .int .i64 l.kind, .int .i64 l.src, .int .i64 l.dst, .slice a0 l.rate.length n0, .slice a1 l.band.lo.length n1, .slice a2 l.band.hi.length n2, .int .i64 l.positions, .int .i64 l.speed, .int .i64 l.leak, .int .i64 l.crest, .int .i64 l.num, .int .i64 l.den, .int .i64 l.prime, .int .i64 l.brk, .int .i64 l.backNum, .int .i64 l.backDen, .int .i64 l.delay], .agg #[.int .i64 k.pos.lo, .int .i64 k.pos.hi, .int .i64 k.target, .int .i64 k.opened.lo, .int .i64 k.opened.hi], .agg #[.int .i64 v, .int .i64 v], .agg #[.int .i64 y, .int .i64 y]] W (fun e W' => e = .returned (.agg #[.int .i64 x1, .int .i64 x2]) ∧ Below W.heap.size W W')) := Lib.hid fun W hb => by have h := bounds_any l (.slice a0 l.rate.length n0) (.slice a1 l.band.lo.length n1) (.slice a2 l.band.hi.length n2) k ⟨v, v⟩ ⟨y, y⟩ W LB.out IV.out IV.out (HW1.out.below stays_Point hb) (HW2.out.below stays_Point hb); rw [e5] at h; exact h
  have C6 : Hid (∀ W, Below w.heap.size w W → Calls Try.prog 15 #[.agg #[.string l.name, .int .i64 l.kind, .int .i64 l.src, .int .i64 l.dst, .slice pc c.length qc, .slice a1 l.band.lo.length n1, .slice a2 l.band.hi.length n2, .int .i64 l.positions, .int .i64 l.speed, .int .i64 l.leak, .int .i64 l.crest, .int .i64 l.num, .int .i64 l.den, .int .i64 l.prime, .int .i64 l.brk, .int .i64 l.backNum, .int .i64 l.backDen, .int .i64 l.delay], .agg #[.int .i64 g.pos, .int .i64 g.target, .bool g.stuck, .bool g.opened], .int .i64 v, .int .i64 y] W (fun e W' => e = .returned (.int .i64 (askN { l with rate := c } g v y)) ∧ Below W.heap.size W W')) := Lib.hid fun W hb => by have h := ask_any { l with rate := c } (.slice pc c.length qc) (.slice a1 l.band.lo.length n1) (.slice a2 l.band.hi.length n2) g v y W LB.out IV.out (HC.out.below stays_Point hb); exact h
  have CH : Hid (∀ W, Below w.heap.size w W → Calls Try.prog 16 #[.agg #[.int .i64 sl, .int .i64 sh], .int .i64 a] W (fun e W' => e = .returned (.bool true) ∧ Below W.heap.size W W')) := Lib.hid fun W hb => by have h := has_any ⟨sl, sh⟩ a W; rw [hasS_iff.2 m1] at h; exact h
  have CW1 : Hid (∀ W, Below w.heap.size w W → Calls Try.prog 18 #[.agg #[.int .i64 d1, .int .i64 d2], .agg #[.int .i64 sl, .int .i64 sh]] W (fun e W' => e = .returned (.bool true) ∧ Below W.heap.size W W')) := Lib.hid fun W hb => by have h := within_any ⟨d1, d2⟩ ⟨sl, sh⟩ W; rw [withinS_iff.2 m3] at h; exact h
  have CW2 : Hid (∀ W, Below w.heap.size w W → Calls Try.prog 18 #[.agg #[.int .i64 x1, .int .i64 x2], .agg #[.int .i64 sl, .int .i64 sh]] W (fun e W' => e = .returned (.bool true) ∧ Below W.heap.size W W')) := Lib.hid fun W hb => by have h := within_any ⟨x1, x2⟩ ⟨sl, sh⟩ W; rw [withinS_iff.2 m4] at h; exact h
  have CU : Hid (∀ (n : Int) (W : World), Calls Try.prog 22 #[.int .i64 n] W (fun e W' => e = .returned (.agg #[.int .i64 n, .int .i64 n]) ∧ Below W.heap.size W W')) := Lib.hid fun n W => of_any n W
  have U5 := Lib.hid m5
  have hb0 : ¬ a < 0 := by omega
  clear e1 e2 e3 e4 e5 m1 m2 m3 m4 m5
  go_wp2_with (first | (refine wpList_load_rowW (by first | (go_simp; done) | rfl) 26 _ rfl _ rfl 26 _ _ _ Lh10.out undLk rfl infoLk ?_) | (refine wpList_load_rowW (by first | (go_simp; done) | rfl) 52 _ rfl _ rfl 52 _ _ _ Kh10.out undKn rfl infoKn ?_) | (refine wpList_load_rowW (by first | (go_simp; done) | rfl) 50 _ rfl _ rfl 50 _ _ _ Fh10.out undSp rfl infoSp ?_) | (refine wpList_load_rowW (by first | (go_simp; done) | rfl) 50 _ rfl _ rfl 50 _ _ _ Th10.out undSp rfl infoSp ?_))
  refine (C1.out _ HB10.out).mono ?_
  rintro e w11 ⟨rfl, hb⟩
  have HB11 := Lib.hid (HB10.out.trans (hb.mono HB10.out.size))
  have Lh11 := Lib.hid (blk_below Lh10.out hb (blk_lt Lh10.out))
  have Gh11 := Lib.hid (blk_below Gh10.out hb (blk_lt Gh10.out))
  have Kh11 := Lib.hid (blk_below Kh10.out hb (blk_lt Kh10.out))
  have Fh11 := Lib.hid (blk_below Fh10.out hb (blk_lt Fh10.out))
  have Th11 := Lib.hid (blk_below Th10.out hb (blk_lt Th10.out))
  clear HB10 Lh10 Gh10 Kh10 Fh10 Th10
  clear hb
  clear t1 t2
  go_upto_region 11 with fail
  have HB12 := Lib.hid (HB11.out.alloc HB11.out.size (.cells #[.int .i64 sl, .int .i64 sh] 50 (0, 0)))
  have Sh12 := Lib.hid (heap_alloc_new w11 (.cells #[.int .i64 sl, .int .i64 sh] 50 (0, 0)))
  have Lh12 := Lib.hid (blk_below Lh11.out ((Below.refl w11.heap.size w11).alloc (Nat.le_refl _) (.cells #[.int .i64 sl, .int .i64 sh] 50 (0, 0))) (blk_lt Lh11.out))
  have Gh12 := Lib.hid (blk_below Gh11.out ((Below.refl w11.heap.size w11).alloc (Nat.le_refl _) (.cells #[.int .i64 sl, .int .i64 sh] 50 (0, 0))) (blk_lt Gh11.out))
  have Kh12 := Lib.hid (blk_below Kh11.out ((Below.refl w11.heap.size w11).alloc (Nat.le_refl _) (.cells #[.int .i64 sl, .int .i64 sh] 50 (0, 0))) (blk_lt Kh11.out))
  have Fh12 := Lib.hid (blk_below Fh11.out ((Below.refl w11.heap.size w11).alloc (Nat.le_refl _) (.cells #[.int .i64 sl, .int .i64 sh] 50 (0, 0))) (blk_lt Fh11.out))
  have Th12 := Lib.hid (blk_below Th11.out ((Below.refl w11.heap.size w11).alloc (Nat.le_refl _) (.cells #[.int .i64 sl, .int .i64 sh] 50 (0, 0))) (blk_lt Th11.out))
  clear HB11 Lh11 Gh11 Kh11 Fh11 Th11
  generalize w11.heap.size = bS at *
  generalize w11.alloc (.cells #[.int .i64 sl, .int .i64 sh] 50 (0, 0)) = w12 at *
  go_wp2_with (first | (refine wpList_load_rowW (by first | (go_simp; done) | rfl) 26 _ rfl _ rfl 26 _ _ _ Lh12.out undLk rfl infoLk ?_) | (refine wpList_load_rowW (by first | (go_simp; done) | rfl) 28 _ rfl _ rfl 28 _ _ _ Gh12.out undGt rfl infoGt ?_))
  refine (C2.out _ HB12.out).mono ?_
  rintro e w13 ⟨rfl, hb⟩
  have HB13 := Lib.hid (HB12.out.trans (hb.mono HB12.out.size))
  have Lh13 := Lib.hid (blk_below Lh12.out hb (blk_lt Lh12.out))
  have Gh13 := Lib.hid (blk_below Gh12.out hb (blk_lt Gh12.out))
  have Kh13 := Lib.hid (blk_below Kh12.out hb (blk_lt Kh12.out))
  have Fh13 := Lib.hid (blk_below Fh12.out hb (blk_lt Fh12.out))
  have Th13 := Lib.hid (blk_below Th12.out hb (blk_lt Th12.out))
  have Sh13 := Lib.hid (blk_below Sh12.out hb (blk_lt Sh12.out))
  clear HB12 Lh12 Gh12 Kh12 Fh12 Th12 Sh12
  clear hb
  go_wp2_with (first | (refine wpList_load_rowW (by first | (go_simp; done) | rfl) 50 _ rfl _ rfl 50 _ _ _ Sh13.out undSp rfl infoSp ?_))
  refine (CH.out _ HB13.out).mono ?_
  rintro e w14 ⟨rfl, hb⟩
  have HB14 := Lib.hid (HB13.out.trans (hb.mono HB13.out.size))
  have Lh14 := Lib.hid (blk_below Lh13.out hb (blk_lt Lh13.out))
  have Gh14 := Lib.hid (blk_below Gh13.out hb (blk_lt Gh13.out))
  have Kh14 := Lib.hid (blk_below Kh13.out hb (blk_lt Kh13.out))
  have Fh14 := Lib.hid (blk_below Fh13.out hb (blk_lt Fh13.out))
  have Th14 := Lib.hid (blk_below Th13.out hb (blk_lt Th13.out))
  have Sh14 := Lib.hid (blk_below Sh13.out hb (blk_lt Sh13.out))
  clear HB13 Lh13 Gh13 Kh13 Fh13 Th13 Sh13
  clear hb
  go_upto_region 14 with fail
  have HNW := Lib.hid (heap_alloc_new w14 (.cells #[.string l.name, .int .i64 l.kind, .int .i64 l.src, .int .i64 l.dst, .slice a0 l.rate.length n0, .slice a1 l.band.lo.length n1, .slice a2 l.band.hi.length n2, .int .i64 l.positions, .int .i64 l.speed, .int .i64 l.leak, .int .i64 l.crest, .int .i64 l.num, .int .i64 l.den, .int .i64 l.prime, .int .i64 l.brk, .int .i64 l.backNum, .int .i64 l.backDen, .int .i64 l.delay] 26))
  have hst2 : Below w14.heap.size w14 (w14.alloc (.cells #[.string l.name, .int .i64 l.kind, .int .i64 l.src, .int .i64 l.dst, .slice a0 l.rate.length n0, .slice a1 l.band.lo.length n1, .slice a2 l.band.hi.length n2, .int .i64 l.positions, .int .i64 l.speed, .int .i64 l.leak, .int .i64 l.crest, .int .i64 l.num, .int .i64 l.den, .int .i64 l.prime, .int .i64 l.brk, .int .i64 l.backNum, .int .i64 l.backDen, .int .i64 l.delay] 26)) := (Below.refl _ _).alloc (Nat.le_refl _) (.cells #[.string l.name, .int .i64 l.kind, .int .i64 l.src, .int .i64 l.dst, .slice a0 l.rate.length n0, .slice a1 l.band.lo.length n1, .slice a2 l.band.hi.length n2, .int .i64 l.positions, .int .i64 l.speed, .int .i64 l.leak, .int .i64 l.crest, .int .i64 l.num, .int .i64 l.den, .int .i64 l.prime, .int .i64 l.brk, .int .i64 l.backNum, .int .i64 l.backDen, .int .i64 l.delay] 26)
  have Lh15 := Lib.hid (blk_below Lh14.out hst2 (blk_lt Lh14.out))
  have ne_L_M : bL ≠ w14.heap.size := Nat.ne_of_lt (blk_lt Lh14.out)
  have Gh15 := Lib.hid (blk_below Gh14.out hst2 (blk_lt Gh14.out))
  have ne_G_M : (w.heap.size + 1) ≠ w14.heap.size := Nat.ne_of_lt (blk_lt Gh14.out)
  have Kh15 := Lib.hid (blk_below Kh14.out hst2 (blk_lt Kh14.out))
  have ne_K_M : (w.heap.size + 1 + 1) ≠ w14.heap.size := Nat.ne_of_lt (blk_lt Kh14.out)
  have Fh15 := Lib.hid (blk_below Fh14.out hst2 (blk_lt Fh14.out))
  have ne_F_M : (w.heap.size + 1 + 1 + 1) ≠ w14.heap.size := Nat.ne_of_lt (blk_lt Fh14.out)
  have Th15 := Lib.hid (blk_below Th14.out hst2 (blk_lt Th14.out))
  have ne_T_M : (w.heap.size + 1 + 1 + 1 + 1) ≠ w14.heap.size := Nat.ne_of_lt (blk_lt Th14.out)
  have Sh15 := Lib.hid (blk_below Sh14.out hst2 (blk_lt Sh14.out))
  have ne_S_M : bS ≠ w14.heap.size := Nat.ne_of_lt (blk_lt Sh14.out)
  have le_M : w.heap.size ≤ w14.heap.size := HB14.out.size
  have HB15 := Lib.hid (HB14.out.alloc HB14.out.size (.cells #[.string l.name, .int .i64 l.kind, .int .i64 l.src, .int .i64 l.dst, .slice a0 l.rate.length n0, .slice a1 l.band.lo.length n1, .slice a2 l.band.hi.length n2, .int .i64 l.positions, .int .i64 l.speed, .int .i64 l.leak, .int .i64 l.crest, .int .i64 l.num, .int .i64 l.den, .int .i64 l.prime, .int .i64 l.brk, .int .i64 l.backNum, .int .i64 l.backDen, .int .i64 l.delay] 26))
  go_upto_region 15 with (first | (refine wpList_load_rowW (by first | (go_simp; done) | rfl) 26 _ rfl _ rfl 26 _ _ _ Lh14.out undLk rfl infoLk ?_) | (refine wpList_store_row rfl 26 _ _ rfl w14.heap.size #[.string l.name, .int .i64 l.kind, .int .i64 l.src, .int .i64 l.dst, .slice a0 l.rate.length n0, .slice a1 l.band.lo.length n1, .slice a2 l.band.hi.length n2, .int .i64 l.positions, .int .i64 l.speed, .int .i64 l.leak, .int .i64 l.crest, .int .i64 l.num, .int .i64 l.den, .int .i64 l.prime, .int .i64 l.brk, .int .i64 l.backNum, .int .i64 l.backDen, .int .i64 l.delay] rfl rfl 26 #[.string ⟨#[]⟩, .int .i64 0, .int .i64 0, .int .i64 0, .slice none 0 0, .slice none 0 0, .slice none 0 0, .int .i64 0, .int .i64 0, .int .i64 0, .int .i64 0, .int .i64 0, .int .i64 0, .int .i64 0, .int .i64 0, .int .i64 0, .int .i64 0, .int .i64 0] (heap_alloc_new w14 (.cells #[.string ⟨#[]⟩, .int .i64 0, .int .i64 0, .int .i64 0, .slice none 0 0, .slice none 0 0, .slice none 0 0, .int .i64 0, .int .i64 0, .int .i64 0, .int .i64 0, .int .i64 0, .int .i64 0, .int .i64 0, .int .i64 0, .int .i64 0, .int .i64 0, .int .i64 0] 26)) infoLk rfl (by simp [Value.oneCell']) ?_))
  rw [World.setRow_alloc_new]
  clear hst2 HB14 Lh14 Gh14 Kh14 Fh14 Th14 Sh14
  generalize w14.alloc (.cells #[.string l.name, .int .i64 l.kind, .int .i64 l.src, .int .i64 l.dst, .slice a0 l.rate.length n0, .slice a1 l.band.lo.length n1, .slice a2 l.band.hi.length n2, .int .i64 l.positions, .int .i64 l.speed, .int .i64 l.leak, .int .i64 l.crest, .int .i64 l.num, .int .i64 l.den, .int .i64 l.prime, .int .i64 l.brk, .int .i64 l.backNum, .int .i64 l.backDen, .int .i64 l.delay] 26) = w15 at *
  generalize w14.heap.size = bM at *
  have Mh15 := Lib.hid HNW.out
  clear HNW
  have z6 : w15.frozen? ⟨bM, 4, none⟩ = false := frozen_of_row _ _ _ _ _ Mh15.out
  have d6 := rowN Mh15.out 4 (.slice a0 l.rate.length n0) rfl
  go_upto_region 16 with fail
  have Mh16 : Hid ((w15.setCell ⟨bM, 4, none⟩ (.slice pc c.length qc)).heap[bM]? = some (.cells #[.string l.name, .int .i64 l.kind, .int .i64 l.src, .int .i64 l.dst, .slice pc c.length qc, .slice a1 l.band.lo.length n1, .slice a2 l.band.hi.length n2, .int .i64 l.positions, .int .i64 l.speed, .int .i64 l.leak, .int .i64 l.crest, .int .i64 l.num, .int .i64 l.den, .int .i64 l.prime, .int .i64 l.brk, .int .i64 l.backNum, .int .i64 l.backDen, .int .i64 l.delay] 26 (0, 0))) := Lib.hid ((heap_setCell_same _ _ _ _ _ _ Mh15.out).trans rfl)
  have Lh16 : Hid ((w15.setCell ⟨bM, 4, none⟩ (.slice pc c.length qc)).heap[bL]? = some (.cells #[.string l.name, .int .i64 l.kind, .int .i64 l.src, .int .i64 l.dst, .slice a0 l.rate.length n0, .slice a1 l.band.lo.length n1, .slice a2 l.band.hi.length n2, .int .i64 l.positions, .int .i64 l.speed, .int .i64 l.leak, .int .i64 l.crest, .int .i64 l.num, .int .i64 l.den, .int .i64 l.prime, .int .i64 l.brk, .int .i64 l.backNum, .int .i64 l.backDen, .int .i64 l.delay] 26 (0, 0))) := Lib.hid ((heap_setCell_other _ _ _ _ ne_L_M).trans Lh15.out)
  have Gh16 : Hid ((w15.setCell ⟨bM, 4, none⟩ (.slice pc c.length qc)).heap[(w.heap.size + 1)]? = some (.cells #[.int .i64 g.pos, .int .i64 g.target, .bool g.stuck, .bool g.opened] 28 (0, 0))) := Lib.hid ((heap_setCell_other _ _ _ _ ne_G_M).trans Gh15.out)
  have Kh16 : Hid ((w15.setCell ⟨bM, 4, none⟩ (.slice pc c.length qc)).heap[(w.heap.size + 1 + 1)]? = some (.cells #[.int .i64 k.pos.lo, .int .i64 k.pos.hi, .int .i64 k.target, .int .i64 k.opened.lo, .int .i64 k.opened.hi] 52 (0, 0))) := Lib.hid ((heap_setCell_other _ _ _ _ ne_K_M).trans Kh15.out)
  have Fh16 : Hid ((w15.setCell ⟨bM, 4, none⟩ (.slice pc c.length qc)).heap[(w.heap.size + 1 + 1 + 1)]? = some (.cells #[.int .i64 fr.lo, .int .i64 fr.hi] 50 (0, 0))) := Lib.hid ((heap_setCell_other _ _ _ _ ne_F_M).trans Fh15.out)
  have Th16 : Hid ((w15.setCell ⟨bM, 4, none⟩ (.slice pc c.length qc)).heap[(w.heap.size + 1 + 1 + 1 + 1)]? = some (.cells #[.int .i64 tt.lo, .int .i64 tt.hi] 50 (0, 0))) := Lib.hid ((heap_setCell_other _ _ _ _ ne_T_M).trans Th15.out)
  have Sh16 : Hid ((w15.setCell ⟨bM, 4, none⟩ (.slice pc c.length qc)).heap[bS]? = some (.cells #[.int .i64 sl, .int .i64 sh] 50 (0, 0))) := Lib.hid ((heap_setCell_other _ _ _ _ ne_S_M).trans Sh15.out)
  have HB16 : Hid (Below w.heap.size w (w15.setCell ⟨bM, 4, none⟩ (.slice pc c.length qc))) := Lib.hid (HB15.out.setCell le_M _)
  clear z6 d6 HB15 Lh15 Gh15 Kh15 Fh15 Th15 Sh15 Mh15
  generalize (w15.setCell ⟨bM, 4, none⟩ (.slice pc c.length qc)) = w16 at *
  go_cut [25] (fun s25 wx => s25 = .bool (underC l.band.lo c && underC c l.band.hi) ∧ wx.heap[bL]? = some (.cells #[.string l.name, .int .i64 l.kind, .int .i64 l.src, .int .i64 l.dst, .slice a0 l.rate.length n0, .slice a1 l.band.lo.length n1, .slice a2 l.band.hi.length n2, .int .i64 l.positions, .int .i64 l.speed, .int .i64 l.leak, .int .i64 l.crest, .int .i64 l.num, .int .i64 l.den, .int .i64 l.prime, .int .i64 l.brk, .int .i64 l.backNum, .int .i64 l.backDen, .int .i64 l.delay] 26 (0, 0)) ∧ wx.heap[(w.heap.size + 1)]? = some (.cells #[.int .i64 g.pos, .int .i64 g.target, .bool g.stuck, .bool g.opened] 28 (0, 0)) ∧ wx.heap[(w.heap.size + 1 + 1)]? = some (.cells #[.int .i64 k.pos.lo, .int .i64 k.pos.hi, .int .i64 k.target, .int .i64 k.opened.lo, .int .i64 k.opened.hi] 52 (0, 0)) ∧ wx.heap[(w.heap.size + 1 + 1 + 1)]? = some (.cells #[.int .i64 fr.lo, .int .i64 fr.hi] 50 (0, 0)) ∧ wx.heap[(w.heap.size + 1 + 1 + 1 + 1)]? = some (.cells #[.int .i64 tt.lo, .int .i64 tt.hi] 50 (0, 0)) ∧ wx.heap[bS]? = some (.cells #[.int .i64 sl, .int .i64 sh] 50 (0, 0)) ∧ wx.heap[bM]? = some (.cells #[.string l.name, .int .i64 l.kind, .int .i64 l.src, .int .i64 l.dst, .slice pc c.length qc, .slice a1 l.band.lo.length n1, .slice a2 l.band.hi.length n2, .int .i64 l.positions, .int .i64 l.speed, .int .i64 l.leak, .int .i64 l.crest, .int .i64 l.num, .int .i64 l.den, .int .i64 l.prime, .int .i64 l.brk, .int .i64 l.backNum, .int .i64 l.backDen, .int .i64 l.delay] 26 (0, 0)) ∧ Below w.heap.size w wx)
  case first => as_aux_lemma =>
    have cL5 := rowN Lh16.out 5 (.slice a1 l.band.lo.length n1) rfl
    have cL6 := rowN Lh16.out 6 (.slice a2 l.band.hi.length n2) rfl
    go_wp2_with fail
    refine (under_any l.band.lo c (.slice a1 l.band.lo.length n1) (.slice pc c.length qc) _ (HW1.out.below stays_Point HB16.out) (HC.out.below stays_Point HB16.out)).mono ?_
    rintro e w17 ⟨rfl, hb⟩
    have HB17 := Lib.hid (HB16.out.trans (hb.mono HB16.out.size))
    have Lh17 := Lib.hid (blk_below Lh16.out hb (blk_lt Lh16.out))
    have Gh17 := Lib.hid (blk_below Gh16.out hb (blk_lt Gh16.out))
    have Kh17 := Lib.hid (blk_below Kh16.out hb (blk_lt Kh16.out))
    have Fh17 := Lib.hid (blk_below Fh16.out hb (blk_lt Fh16.out))
    have Th17 := Lib.hid (blk_below Th16.out hb (blk_lt Th16.out))
    have Sh17 := Lib.hid (blk_below Sh16.out hb (blk_lt Sh16.out))
    have Mh17 := Lib.hid (blk_below Mh16.out hb (blk_lt Mh16.out))
    clear HB16 Lh16 Gh16 Kh16 Fh16 Th16 Sh16 Mh16
    clear hb
    cases hU : underC l.band.lo c
    · clear cL5 cL6
      go_wp2_with fail
      go_meet
      exact ⟨by rw [hU]; rfl, Lh17.out, Gh17.out, Kh17.out, Fh17.out, Th17.out, Sh17.out, Mh17.out, HB17.out⟩
    clear cL5 cL6
    have cL6 := rowN Lh17.out 6 (.slice a2 l.band.hi.length n2) rfl
    go_wp2_with fail
    refine (under_any c l.band.hi (.slice pc c.length qc) (.slice a2 l.band.hi.length n2) _ (HC.out.below stays_Point HB17.out) (HW2.out.below stays_Point HB17.out)).mono ?_
    rintro e w18 ⟨rfl, hb⟩
    have HB18 := Lib.hid (HB17.out.trans (hb.mono HB17.out.size))
    have Lh18 := Lib.hid (blk_below Lh17.out hb (blk_lt Lh17.out))
    have Gh18 := Lib.hid (blk_below Gh17.out hb (blk_lt Gh17.out))
    have Kh18 := Lib.hid (blk_below Kh17.out hb (blk_lt Kh17.out))
    have Fh18 := Lib.hid (blk_below Fh17.out hb (blk_lt Fh17.out))
    have Th18 := Lib.hid (blk_below Th17.out hb (blk_lt Th17.out))
    have Sh18 := Lib.hid (blk_below Sh17.out hb (blk_lt Sh17.out))
    have Mh18 := Lib.hid (blk_below Mh17.out hb (blk_lt Mh17.out))
    clear HB17 Lh17 Gh17 Kh17 Fh17 Th17 Sh17 Mh17
    clear hb
    cases hU2 : underC c l.band.hi
    · clear cL6
      go_wp2_with fail
      go_meet
      exact ⟨by rw [hU, hU2]; rfl, Lh18.out, Gh18.out, Kh18.out, Fh18.out, Th18.out, Sh18.out, Mh18.out, HB18.out⟩
    · clear cL6
      go_wp2_with fail
      go_meet
      exact ⟨by rw [hU, hU2]; rfl, Lh18.out, Gh18.out, Kh18.out, Fh18.out, Th18.out, Sh18.out, Mh18.out, HB18.out⟩
  obtain ⟨rfl, qL, qG, qK, qF, qT, qS, qM, qB⟩ := hcut
  have Lh17 := Lib.hid qL
  have Gh17 := Lib.hid qG
  have Kh17 := Lib.hid qK
  have Fh17 := Lib.hid qF
  have Th17 := Lib.hid qT
  have Sh17 := Lib.hid qS
  have Mh17 := Lib.hid qM
  have HB17 := Lib.hid qB
  clear qB qL qG qK qF qT qS qM Lh16 Gh16 Kh16 Fh16 Th16 Sh16 Mh16 HB16
  go_upto_region 17 with fail
  go_cut [25, 179] (fun s25 s179 wx => s179 = .bool false ∧ wx.heap[bL]? = some (.cells #[.string l.name, .int .i64 l.kind, .int .i64 l.src, .int .i64 l.dst, .slice a0 l.rate.length n0, .slice a1 l.band.lo.length n1, .slice a2 l.band.hi.length n2, .int .i64 l.positions, .int .i64 l.speed, .int .i64 l.leak, .int .i64 l.crest, .int .i64 l.num, .int .i64 l.den, .int .i64 l.prime, .int .i64 l.brk, .int .i64 l.backNum, .int .i64 l.backDen, .int .i64 l.delay] 26 (0, 0)) ∧ wx.heap[(w.heap.size + 1)]? = some (.cells #[.int .i64 g.pos, .int .i64 g.target, .bool g.stuck, .bool g.opened] 28 (0, 0)) ∧ wx.heap[(w.heap.size + 1 + 1)]? = some (.cells #[.int .i64 k.pos.lo, .int .i64 k.pos.hi, .int .i64 k.target, .int .i64 k.opened.lo, .int .i64 k.opened.hi] 52 (0, 0)) ∧ wx.heap[(w.heap.size + 1 + 1 + 1)]? = some (.cells #[.int .i64 fr.lo, .int .i64 fr.hi] 50 (0, 0)) ∧ wx.heap[(w.heap.size + 1 + 1 + 1 + 1)]? = some (.cells #[.int .i64 tt.lo, .int .i64 tt.hi] 50 (0, 0)) ∧ wx.heap[bS]? = some (.cells #[.int .i64 sl, .int .i64 sh] 50 (0, 0)) ∧ wx.heap[bM]? = some (.cells #[.string l.name, .int .i64 l.kind, .int .i64 l.src, .int .i64 l.dst, .slice pc c.length qc, .slice a1 l.band.lo.length n1, .slice a2 l.band.hi.length n2, .int .i64 l.positions, .int .i64 l.speed, .int .i64 l.leak, .int .i64 l.crest, .int .i64 l.num, .int .i64 l.den, .int .i64 l.prime, .int .i64 l.brk, .int .i64 l.backNum, .int .i64 l.backDen, .int .i64 l.delay] 26 (0, 0)) ∧ Below w.heap.size w wx)
  case first => as_aux_lemma =>
    by_cases hk0 : l.kind = 0
    · have hkb : (l.kind == 0) = true := by rw [hk0]; rfl
      cases hU : (underC l.band.lo c && underC c l.band.hi)
      · clear hk0
        refine wp_region_noPanic ?_
        refine wp_region_held_drew (S := fun w' => w'.heap[bL]? = some (.cells #[.string l.name, .int .i64 l.kind, .int .i64 l.src, .int .i64 l.dst, .slice a0 l.rate.length n0, .slice a1 l.band.lo.length n1, .slice a2 l.band.hi.length n2, .int .i64 l.positions, .int .i64 l.speed, .int .i64 l.leak, .int .i64 l.crest, .int .i64 l.num, .int .i64 l.den, .int .i64 l.prime, .int .i64 l.brk, .int .i64 l.backNum, .int .i64 l.backDen, .int .i64 l.delay] 26 (0, 0)) ∧ w'.heap[(w.heap.size + 1)]? = some (.cells #[.int .i64 g.pos, .int .i64 g.target, .bool g.stuck, .bool g.opened] 28 (0, 0)) ∧ w'.heap[(w.heap.size + 1 + 1)]? = some (.cells #[.int .i64 k.pos.lo, .int .i64 k.pos.hi, .int .i64 k.target, .int .i64 k.opened.lo, .int .i64 k.opened.hi] 52 (0, 0)) ∧ w'.heap[(w.heap.size + 1 + 1 + 1)]? = some (.cells #[.int .i64 fr.lo, .int .i64 fr.hi] 50 (0, 0)) ∧ w'.heap[(w.heap.size + 1 + 1 + 1 + 1)]? = some (.cells #[.int .i64 tt.lo, .int .i64 tt.hi] 50 (0, 0)) ∧ w'.heap[bS]? = some (.cells #[.int .i64 sl, .int .i64 sh] 50 (0, 0)) ∧ w'.heap[bM]? = some (.cells #[.string l.name, .int .i64 l.kind, .int .i64 l.src, .int .i64 l.dst, .slice pc c.length qc, .slice a1 l.band.lo.length n1, .slice a2 l.band.hi.length n2, .int .i64 l.positions, .int .i64 l.speed, .int .i64 l.leak, .int .i64 l.crest, .int .i64 l.num, .int .i64 l.den, .int .i64 l.prime, .int .i64 l.brk, .int .i64 l.backNum, .int .i64 l.backDen, .int .i64 l.delay] 26 (0, 0)) ∧ w'.cell? ⟨bL, 1, none⟩ = some (.int .i64 l.kind) ∧ Below w.heap.size w w') (by kernel_rfl) (stepHc ⟨Lh17.out, Gh17.out, Kh17.out, Fh17.out, Th17.out, Sh17.out, Mh17.out, rowN Lh17.out 1 _ rfl, HB17.out⟩ (Below.refl _ _).drew) (fun hHeld => ?_)
        refine' wpAnyH_take (i := 0) (v := _) (by simp only [List.getElem?_toArray, List.getElem?_cons_zero]; exact rfl) (by kernel_rfl) (by kernel_rfl) (by kernel_rfl) (fun _ _ _ h => h) (Or.inl ⟨by rfl, ?y0x1⟩) hHeld ?r0x1
        case y0x1 => (intro w hSw; (try dsimp only at hSw); go_simp; try with_reducible rfl)
        try simp only [Act.put, List.setIfInBounds_toArray, List.set_cons_zero, List.set_cons_succ]
        refine' wpAnyH_take (i := 1) (v := _) (by simp only [List.getElem?_toArray, List.getElem?_cons_succ, List.getElem?_cons_zero]; exact rfl) (by kernel_rfl) (by kernel_rfl) (by kernel_rfl) (fun _ _ _ h => h) (Or.inl ⟨by rfl, ?y1x2⟩) hHeld ?r1x2
        case y1x2 => (intro w hSw; (try dsimp only at hSw); go_simp; try with_reducible rfl)
        try simp only [Act.put, List.setIfInBounds_toArray, List.set_cons_zero, List.set_cons_succ]
        refine' wpAnyH_take (i := 2) (v := _) (by simp only [List.getElem?_toArray, List.getElem?_cons_succ, List.getElem?_cons_zero]; exact rfl) (by kernel_rfl) (by kernel_rfl) (by kernel_rfl) (fun _ _ _ h => h) (Or.inl ⟨by rfl, ?y2x3⟩) hHeld ?r2x3
        case y2x3 => (intro w hSw; (try dsimp only at hSw); go_simp; try with_reducible rfl)
        try simp only [Act.put, List.setIfInBounds_toArray, List.set_cons_zero, List.set_cons_succ]
        refine' wpAnyH_take (i := 3) (v := _) (by simp only [List.getElem?_toArray, List.getElem?_cons_succ, List.getElem?_cons_zero]; exact rfl) (by kernel_rfl) (by kernel_rfl) (by kernel_rfl) (fun _ _ _ h => h) (Or.inl ⟨by rfl, ?y3x4⟩) hHeld ?r3x4
        case y3x4 => (intro w hSw; (try dsimp only at hSw); go_simp; try with_reducible rfl)
        try simp only [Act.put, List.setIfInBounds_toArray, List.set_cons_zero, List.set_cons_succ]
        refine' wpAnyH_take (i := 4) (v := _) (by simp only [List.getElem?_toArray, List.getElem?_cons_succ, List.getElem?_cons_zero]; exact rfl) (by kernel_rfl) (by kernel_rfl) (by kernel_rfl) (fun _ _ _ h => h) (Or.inl ⟨by rfl, ?y4x5⟩) hHeld ?r4x5
        case y4x5 => (intro w hSw; (try dsimp only at hSw); go_simp; try with_reducible rfl)
        try simp only [Act.put, List.setIfInBounds_toArray, List.set_cons_zero, List.set_cons_succ]
        refine' wpAnyH_take (i := 5) (v := _) (by simp only [List.getElem?_toArray, List.getElem?_cons_succ, List.getElem?_cons_zero]; exact rfl) (by kernel_rfl) (by kernel_rfl) (by kernel_rfl) (fun _ _ _ h => h) (Or.inl ⟨by rfl, ?y5x6⟩) hHeld ?r5x6
        case y5x6 => (intro w hSw; (try dsimp only at hSw); go_simp; try with_reducible rfl)
        try simp only [Act.put, List.setIfInBounds_toArray, List.set_cons_zero, List.set_cons_succ]
        refine' wpAnyH_take (i := 6) (v := _) (by simp only [List.getElem?_toArray, List.getElem?_cons_succ, List.getElem?_cons_zero]; exact rfl) (by kernel_rfl) (by kernel_rfl) (by kernel_rfl) (fun _ _ _ h => h) (Or.inl ⟨by rfl, ?y6x7⟩) hHeld ?r6x7
        case y6x7 => (intro w hSw; (try dsimp only at hSw); go_simp; try with_reducible rfl)
        try simp only [Act.put, List.setIfInBounds_toArray, List.set_cons_zero, List.set_cons_succ]
        refine wpAnyH_take (i := 7) (v := undef) (by simp only [List.getElem?_toArray, List.getElem?_cons_succ, List.getElem?_cons_zero]; exact rfl) (by kernel_rfl) (by kernel_rfl) (by kernel_rfl) (fun _ _ _ h => h) (Or.inr ⟨by rfl, rfl⟩) hHeld ?_
        try simp only [Act.put, List.setIfInBounds_toArray, List.set_cons_zero, List.set_cons_succ]
        refine wpAnyH_take (i := 8) (v := undef) (by simp only [List.getElem?_toArray, List.getElem?_cons_succ, List.getElem?_cons_zero]; exact rfl) (by kernel_rfl) (by kernel_rfl) (by kernel_rfl) (fun _ _ _ h => h) (Or.inr ⟨by rfl, rfl⟩) hHeld ?_
        try simp only [Act.put, List.setIfInBounds_toArray, List.set_cons_zero, List.set_cons_succ]
        refine wpAnyH_take (i := 9) (v := undef) (by simp only [List.getElem?_toArray, List.getElem?_cons_succ, List.getElem?_cons_zero]; exact rfl) (by kernel_rfl) (by kernel_rfl) (by kernel_rfl) (fun _ _ _ h => h) (Or.inr ⟨by rfl, rfl⟩) hHeld ?_
        try simp only [Act.put, List.setIfInBounds_toArray, List.set_cons_zero, List.set_cons_succ]
        refine wpAnyH_take (i := 10) (v := undef) (by simp only [List.getElem?_toArray, List.getElem?_cons_succ, List.getElem?_cons_zero]; exact rfl) (by kernel_rfl) (by kernel_rfl) (by kernel_rfl) (fun _ _ _ h => h) (Or.inr ⟨by rfl, rfl⟩) hHeld ?_
        try simp only [Act.put, List.setIfInBounds_toArray, List.set_cons_zero, List.set_cons_succ]
        refine wpAnyH_take (i := 11) (v := undef) (by simp only [List.getElem?_toArray, List.getElem?_cons_succ, List.getElem?_cons_zero]; exact rfl) (by kernel_rfl) (by kernel_rfl) (by kernel_rfl) (fun _ _ _ h => h) (Or.inr ⟨by rfl, rfl⟩) hHeld ?_
        try simp only [Act.put, List.setIfInBounds_toArray, List.set_cons_zero, List.set_cons_succ]
        refine wpAnyH_take (i := 12) (v := undef) (by simp only [List.getElem?_toArray, List.getElem?_cons_succ, List.getElem?_cons_zero]; exact rfl) (by kernel_rfl) (by kernel_rfl) (by kernel_rfl) (fun _ _ _ h => h) (Or.inr ⟨by rfl, rfl⟩) hHeld ?_
        try simp only [Act.put, List.setIfInBounds_toArray, List.set_cons_zero, List.set_cons_succ]
        refine wpAnyH_take (i := 13) (v := undef) (by simp only [List.getElem?_toArray, List.getElem?_cons_succ, List.getElem?_cons_zero]; exact rfl) (by kernel_rfl) (by kernel_rfl) (by kernel_rfl) (fun _ _ _ h => h) (Or.inr ⟨by rfl, rfl⟩) hHeld ?_
        try simp only [Act.put, List.setIfInBounds_toArray, List.set_cons_zero, List.set_cons_succ]
        refine wpAnyH_take (i := 14) (v := undef) (by simp only [List.getElem?_toArray, List.getElem?_cons_succ, List.getElem?_cons_zero]; exact rfl) (by kernel_rfl) (by kernel_rfl) (by kernel_rfl) (fun _ _ _ h => h) (Or.inr ⟨by rfl, rfl⟩) hHeld ?_
        try simp only [Act.put, List.setIfInBounds_toArray, List.set_cons_zero, List.set_cons_succ]
        refine' wpAnyH_take (i := 15) (v := _) (by simp only [List.getElem?_toArray, List.getElem?_cons_succ, List.getElem?_cons_zero]; exact rfl) (by kernel_rfl) (by kernel_rfl) (by kernel_rfl) (fun _ _ _ h => h) (Or.inl ⟨by rfl, ?y15x8⟩) hHeld ?r15x8
        case y15x8 => (intro w hSw; (try dsimp only at hSw); go_simp; try with_reducible rfl)
        try simp only [Act.put, List.setIfInBounds_toArray, List.set_cons_zero, List.set_cons_succ]
        refine wpAnyH_done (by kernel_rfl) ?_ _
        refine NoPanic.normal ?_
        obtain ⟨qL, qG, qK, qF, qT, qS, qM, -, qB⟩ := hHeld
        have Lh18 := Lib.hid qL
        have Gh18 := Lib.hid qG
        have Kh18 := Lib.hid qK
        have Fh18 := Lib.hid qF
        have Th18 := Lib.hid qT
        have Sh18 := Lib.hid qS
        have Mh18 := Lib.hid qM
        have HB18 := Lib.hid qB
        clear qB qL qG qK qF qT qS qM Lh17 Gh17 Kh17 Fh17 Th17 Sh17 Mh17 HB17
        go_wp2_with fail
        go_meet
        exact ⟨rfl, Lh18.out, Gh18.out, Kh18.out, Fh18.out, Th18.out, Sh18.out, Mh18.out, HB18.out⟩
      · have HHC : Hid (∀ W, Calls Try.prog 16 #[.agg #[.int .i64 sl, .int .i64 sh], .int .i64 (askN { l with rate := c } g v y)] W (fun e W' => e = .returned (.bool true) ∧ Below W.heap.size W W')) := Lib.hid fun W => by
          have hu := Bool.and_eq_true_iff.1 hU
          have h := has_any ⟨sl, sh⟩ (askN { l with rate := c } g v y) W
          rw [hasS_iff.2 (U5.out c hk0 hu.1 hu.2)] at h
          exact h
        clear hk0
        refine wp_region_noPanic ?_
        refine wp_region_held_drew (S := fun w' => w'.heap[bL]? = some (.cells #[.string l.name, .int .i64 l.kind, .int .i64 l.src, .int .i64 l.dst, .slice a0 l.rate.length n0, .slice a1 l.band.lo.length n1, .slice a2 l.band.hi.length n2, .int .i64 l.positions, .int .i64 l.speed, .int .i64 l.leak, .int .i64 l.crest, .int .i64 l.num, .int .i64 l.den, .int .i64 l.prime, .int .i64 l.brk, .int .i64 l.backNum, .int .i64 l.backDen, .int .i64 l.delay] 26 (0, 0)) ∧ w'.heap[(w.heap.size + 1)]? = some (.cells #[.int .i64 g.pos, .int .i64 g.target, .bool g.stuck, .bool g.opened] 28 (0, 0)) ∧ w'.heap[(w.heap.size + 1 + 1)]? = some (.cells #[.int .i64 k.pos.lo, .int .i64 k.pos.hi, .int .i64 k.target, .int .i64 k.opened.lo, .int .i64 k.opened.hi] 52 (0, 0)) ∧ w'.heap[(w.heap.size + 1 + 1 + 1)]? = some (.cells #[.int .i64 fr.lo, .int .i64 fr.hi] 50 (0, 0)) ∧ w'.heap[(w.heap.size + 1 + 1 + 1 + 1)]? = some (.cells #[.int .i64 tt.lo, .int .i64 tt.hi] 50 (0, 0)) ∧ w'.heap[bS]? = some (.cells #[.int .i64 sl, .int .i64 sh] 50 (0, 0)) ∧ w'.heap[bM]? = some (.cells #[.string l.name, .int .i64 l.kind, .int .i64 l.src, .int .i64 l.dst, .slice pc c.length qc, .slice a1 l.band.lo.length n1, .slice a2 l.band.hi.length n2, .int .i64 l.positions, .int .i64 l.speed, .int .i64 l.leak, .int .i64 l.crest, .int .i64 l.num, .int .i64 l.den, .int .i64 l.prime, .int .i64 l.brk, .int .i64 l.backNum, .int .i64 l.backDen, .int .i64 l.delay] 26 (0, 0)) ∧ w'.cell? ⟨bL, 1, none⟩ = some (.int .i64 l.kind) ∧ Below w.heap.size w w') (by kernel_rfl) (stepHc ⟨Lh17.out, Gh17.out, Kh17.out, Fh17.out, Th17.out, Sh17.out, Mh17.out, rowN Lh17.out 1 _ rfl, HB17.out⟩ (Below.refl _ _).drew) (fun hHeld => ?_)
        refine' wpAnyH_take (i := 0) (v := _) (by simp only [List.getElem?_toArray, List.getElem?_cons_zero]; exact rfl) (by kernel_rfl) (by kernel_rfl) (by kernel_rfl) (fun _ _ _ h => h) (Or.inl ⟨by rfl, ?y0x9⟩) hHeld ?r0x9
        case y0x9 => (intro w hSw; (try dsimp only at hSw); go_simp; try with_reducible rfl)
        try simp only [Act.put, List.setIfInBounds_toArray, List.set_cons_zero, List.set_cons_succ]
        refine' wpAnyH_take (i := 1) (v := _) (by simp only [List.getElem?_toArray, List.getElem?_cons_succ, List.getElem?_cons_zero]; exact rfl) (by kernel_rfl) (by kernel_rfl) (by kernel_rfl) (fun _ _ _ h => h) (Or.inl ⟨by rfl, ?y1x10⟩) hHeld ?r1x10
        case y1x10 => (intro w hSw; (try dsimp only at hSw); go_simp; try with_reducible rfl)
        try simp only [Act.put, List.setIfInBounds_toArray, List.set_cons_zero, List.set_cons_succ]
        refine' wpAnyH_take (i := 2) (v := _) (by simp only [List.getElem?_toArray, List.getElem?_cons_succ, List.getElem?_cons_zero]; exact rfl) (by kernel_rfl) (by kernel_rfl) (by kernel_rfl) (fun _ _ _ h => h) (Or.inl ⟨by rfl, ?y2x11⟩) hHeld ?r2x11
        case y2x11 => (intro w hSw; (try dsimp only at hSw); go_simp; try with_reducible rfl)
        try simp only [Act.put, List.setIfInBounds_toArray, List.set_cons_zero, List.set_cons_succ]
        refine' wpAnyH_take (i := 3) (v := _) (by simp only [List.getElem?_toArray, List.getElem?_cons_succ, List.getElem?_cons_zero]; exact rfl) (by kernel_rfl) (by kernel_rfl) (by kernel_rfl) (fun _ _ _ h => h) (Or.inl ⟨by rfl, ?y3x12⟩) hHeld ?r3x12
        case y3x12 => (intro w hSw; (try dsimp only at hSw); go_simp; try with_reducible rfl)
        try simp only [Act.put, List.setIfInBounds_toArray, List.set_cons_zero, List.set_cons_succ]
        refine' wpAnyH_take (i := 4) (v := _) (by simp only [List.getElem?_toArray, List.getElem?_cons_succ, List.getElem?_cons_zero]; exact rfl) (by kernel_rfl) (by kernel_rfl) (by kernel_rfl) (fun _ _ _ h => h) (Or.inl ⟨by rfl, ?y4x13⟩) hHeld ?r4x13
        case y4x13 => (intro w hSw; (try dsimp only at hSw); go_simp; try with_reducible rfl)
        try simp only [Act.put, List.setIfInBounds_toArray, List.set_cons_zero, List.set_cons_succ]
        refine' wpAnyH_take (i := 5) (v := _) (by simp only [List.getElem?_toArray, List.getElem?_cons_succ, List.getElem?_cons_zero]; exact rfl) (by kernel_rfl) (by kernel_rfl) (by kernel_rfl) (fun _ _ _ h => h) (Or.inl ⟨by rfl, ?y5x14⟩) hHeld ?r5x14
        case y5x14 => (intro w hSw; (try dsimp only at hSw); go_simp; try with_reducible rfl)
        try simp only [Act.put, List.setIfInBounds_toArray, List.set_cons_zero, List.set_cons_succ]
        refine' wpAnyH_take (i := 6) (v := _) (by simp only [List.getElem?_toArray, List.getElem?_cons_succ, List.getElem?_cons_zero]; exact rfl) (by kernel_rfl) (by kernel_rfl) (by kernel_rfl) (fun _ _ _ h => h) (Or.inl ⟨by rfl, ?y6x15⟩) hHeld ?r6x15
        case y6x15 => (intro w hSw; (try dsimp only at hSw); go_simp; try with_reducible rfl)
        try simp only [Act.put, List.setIfInBounds_toArray, List.set_cons_zero, List.set_cons_succ]
        refine' wpAnyH_take (i := 7) (v := _) (by simp only [List.getElem?_toArray, List.getElem?_cons_succ, List.getElem?_cons_zero]; exact rfl) (by kernel_rfl) (by kernel_rfl) (by kernel_rfl) (fun _ _ _ h => h) (Or.inl ⟨by rfl, ?y7x16⟩) hHeld ?r7x16
        case y7x16 => (intro w hSw; refine exec_load_row 50 ?_ ?_ _ ?_ 50 _ _ _ (hSw.2.2.2.2.2.1) undSp rfl infoSp; rotate_left 1; exact rfl; exact rfl)
        try simp only [Act.put, List.setIfInBounds_toArray, List.set_cons_zero, List.set_cons_succ]
        refine' wpAnyH_take (i := 8) (v := _) (by simp only [List.getElem?_toArray, List.getElem?_cons_succ, List.getElem?_cons_zero]; exact rfl) (by kernel_rfl) (by kernel_rfl) (by kernel_rfl) (fun _ _ _ h => h) (Or.inl ⟨by rfl, ?y8x17⟩) hHeld ?r8x17
        case y8x17 => (intro w hSw; refine exec_load_row 26 ?_ ?_ _ ?_ 26 _ _ _ (hSw.2.2.2.2.2.2.1) undLk rfl infoLk; rotate_left 1; exact rfl; exact rfl)
        try simp only [Act.put, List.setIfInBounds_toArray, List.set_cons_zero, List.set_cons_succ]
        refine' wpAnyH_take (i := 9) (v := _) (by simp only [List.getElem?_toArray, List.getElem?_cons_succ, List.getElem?_cons_zero]; exact rfl) (by kernel_rfl) (by kernel_rfl) (by kernel_rfl) (fun _ _ _ h => h) (Or.inl ⟨by rfl, ?y9x18⟩) hHeld ?r9x18
        case y9x18 => (intro w hSw; refine exec_load_row 28 ?_ ?_ _ ?_ 28 _ _ _ (hSw.2.1) undGt rfl infoGt; rotate_left 1; exact rfl; exact rfl)
        try simp only [Act.put, List.setIfInBounds_toArray, List.set_cons_zero, List.set_cons_succ]
        refine' wpAnyH_take (i := 10) (v := _) (by simp only [List.getElem?_toArray, List.getElem?_cons_succ, List.getElem?_cons_zero]; exact rfl) (by kernel_rfl) (by kernel_rfl) (by kernel_rfl) (fun _ _ _ h => h) (Or.inl ⟨by rfl, ?y10x19⟩) hHeld ?r10x19
        case y10x19 => (intro w hSw; (try dsimp only at hSw); go_simp; try with_reducible rfl)
        try simp only [Act.put, List.setIfInBounds_toArray, List.set_cons_zero, List.set_cons_succ]
        refine' wpAnyH_take (i := 11) (v := _) (by simp only [List.getElem?_toArray, List.getElem?_cons_succ, List.getElem?_cons_zero]; exact rfl) (by kernel_rfl) (by kernel_rfl) (by kernel_rfl) (fun _ _ _ h => h) (Or.inl ⟨by rfl, ?y11x20⟩) hHeld ?r11x20
        case y11x20 => (intro w hSw; (try dsimp only at hSw); go_simp; try with_reducible rfl)
        try simp only [Act.put, List.setIfInBounds_toArray, List.set_cons_zero, List.set_cons_succ]
        refine wpAnyH_ready (rs := [12]) (by kernel_rfl) (by simp) ?_
        refine AllReadyH.cons (by simp only [List.getElem?_toArray, List.getElem?_cons_succ, List.getElem?_cons_zero]; exact rfl) (fun K hK => ?_) AllReadyH.nil
        go_simp
        refine (C6.out _ hHeld.2.2.2.2.2.2.2.2).mono ?_
        rintro e w' ⟨rfl, hb⟩
        refine hK.out _ _ (stepHc hHeld hb) (fun hHeld => ?_)
        clear hK K hb
        try simp only [Act.put, List.setIfInBounds_toArray, List.set_cons_zero, List.set_cons_succ]
        refine wpAnyH_ready (rs := [13]) (by kernel_rfl) (by simp) ?_
        refine AllReadyH.cons (by simp only [List.getElem?_toArray, List.getElem?_cons_succ, List.getElem?_cons_zero]; exact rfl) (fun K hK => ?_) AllReadyH.nil
        go_simp
        refine (HHC.out _).mono ?_
        rintro e w' ⟨rfl, hb⟩
        refine hK.out _ _ (stepHc hHeld hb) (fun hHeld => ?_)
        clear hK K hb
        try simp only [Act.put, List.setIfInBounds_toArray, List.set_cons_zero, List.set_cons_succ]
        refine' wpAnyH_take (i := 14) (v := _) (by simp only [List.getElem?_toArray, List.getElem?_cons_succ, List.getElem?_cons_zero]; exact rfl) (by kernel_rfl) (by kernel_rfl) (by kernel_rfl) (fun _ _ _ h => h) (Or.inl ⟨by rfl, ?y14x21⟩) hHeld ?r14x21
        case y14x21 => (intro w hSw; (try dsimp only at hSw); go_simp; try with_reducible rfl)
        try simp only [Act.put, List.setIfInBounds_toArray, List.set_cons_zero, List.set_cons_succ]
        refine' wpAnyH_take (i := 15) (v := _) (by simp only [List.getElem?_toArray, List.getElem?_cons_succ, List.getElem?_cons_zero]; exact rfl) (by kernel_rfl) (by kernel_rfl) (by kernel_rfl) (fun _ _ _ h => h) (Or.inl ⟨by rfl, ?y15x22⟩) hHeld ?r15x22
        case y15x22 => (intro w hSw; (try dsimp only at hSw); go_simp; try with_reducible rfl)
        try simp only [Act.put, List.setIfInBounds_toArray, List.set_cons_zero, List.set_cons_succ]
        refine wpAnyH_done (by kernel_rfl) ?_ _
        refine NoPanic.normal ?_
        obtain ⟨qL, qG, qK, qF, qT, qS, qM, -, qB⟩ := hHeld
        have Lh18 := Lib.hid qL
        have Gh18 := Lib.hid qG
        have Kh18 := Lib.hid qK
        have Fh18 := Lib.hid qF
        have Th18 := Lib.hid qT
        have Sh18 := Lib.hid qS
        have Mh18 := Lib.hid qM
        have HB18 := Lib.hid qB
        clear qB qL qG qK qF qT qS qM Lh17 Gh17 Kh17 Fh17 Th17 Sh17 Mh17 HB17
        go_wp2_with fail
        go_meet
        exact ⟨rfl, Lh18.out, Gh18.out, Kh18.out, Fh18.out, Th18.out, Sh18.out, Mh18.out, HB18.out⟩
    · have hkb : (l.kind == 0) = false := beq_eq_false_iff_ne.2 hk0
      clear hk0
      refine wp_region_noPanic ?_
      refine wp_region_held_drew (S := fun w' => w'.heap[bL]? = some (.cells #[.string l.name, .int .i64 l.kind, .int .i64 l.src, .int .i64 l.dst, .slice a0 l.rate.length n0, .slice a1 l.band.lo.length n1, .slice a2 l.band.hi.length n2, .int .i64 l.positions, .int .i64 l.speed, .int .i64 l.leak, .int .i64 l.crest, .int .i64 l.num, .int .i64 l.den, .int .i64 l.prime, .int .i64 l.brk, .int .i64 l.backNum, .int .i64 l.backDen, .int .i64 l.delay] 26 (0, 0)) ∧ w'.heap[(w.heap.size + 1)]? = some (.cells #[.int .i64 g.pos, .int .i64 g.target, .bool g.stuck, .bool g.opened] 28 (0, 0)) ∧ w'.heap[(w.heap.size + 1 + 1)]? = some (.cells #[.int .i64 k.pos.lo, .int .i64 k.pos.hi, .int .i64 k.target, .int .i64 k.opened.lo, .int .i64 k.opened.hi] 52 (0, 0)) ∧ w'.heap[(w.heap.size + 1 + 1 + 1)]? = some (.cells #[.int .i64 fr.lo, .int .i64 fr.hi] 50 (0, 0)) ∧ w'.heap[(w.heap.size + 1 + 1 + 1 + 1)]? = some (.cells #[.int .i64 tt.lo, .int .i64 tt.hi] 50 (0, 0)) ∧ w'.heap[bS]? = some (.cells #[.int .i64 sl, .int .i64 sh] 50 (0, 0)) ∧ w'.heap[bM]? = some (.cells #[.string l.name, .int .i64 l.kind, .int .i64 l.src, .int .i64 l.dst, .slice pc c.length qc, .slice a1 l.band.lo.length n1, .slice a2 l.band.hi.length n2, .int .i64 l.positions, .int .i64 l.speed, .int .i64 l.leak, .int .i64 l.crest, .int .i64 l.num, .int .i64 l.den, .int .i64 l.prime, .int .i64 l.brk, .int .i64 l.backNum, .int .i64 l.backDen, .int .i64 l.delay] 26 (0, 0)) ∧ w'.cell? ⟨bL, 1, none⟩ = some (.int .i64 l.kind) ∧ Below w.heap.size w w') (by kernel_rfl) (stepHc ⟨Lh17.out, Gh17.out, Kh17.out, Fh17.out, Th17.out, Sh17.out, Mh17.out, rowN Lh17.out 1 _ rfl, HB17.out⟩ (Below.refl _ _).drew) (fun hHeld => ?_)
      refine' wpAnyH_take (i := 0) (v := _) (by simp only [List.getElem?_toArray, List.getElem?_cons_zero]; exact rfl) (by kernel_rfl) (by kernel_rfl) (by kernel_rfl) (fun _ _ _ h => h) (Or.inl ⟨by rfl, ?y0x23⟩) hHeld ?r0x23
      case y0x23 => (intro w hSw; (try dsimp only at hSw); go_simp; try with_reducible rfl)
      try simp only [Act.put, List.setIfInBounds_toArray, List.set_cons_zero, List.set_cons_succ]
      refine' wpAnyH_take (i := 1) (v := _) (by simp only [List.getElem?_toArray, List.getElem?_cons_succ, List.getElem?_cons_zero]; exact rfl) (by kernel_rfl) (by kernel_rfl) (by kernel_rfl) (fun _ _ _ h => h) (Or.inl ⟨by rfl, ?y1x24⟩) hHeld ?r1x24
      case y1x24 => (intro w hSw; (try dsimp only at hSw); go_simp; try with_reducible rfl)
      try simp only [Act.put, List.setIfInBounds_toArray, List.set_cons_zero, List.set_cons_succ]
      refine' wpAnyH_take (i := 2) (v := _) (by simp only [List.getElem?_toArray, List.getElem?_cons_succ, List.getElem?_cons_zero]; exact rfl) (by kernel_rfl) (by kernel_rfl) (by kernel_rfl) (fun _ _ _ h => h) (Or.inl ⟨by rfl, ?y2x25⟩) hHeld ?r2x25
      case y2x25 => (intro w hSw; (try dsimp only at hSw); go_simp; try with_reducible rfl)
      try simp only [Act.put, List.setIfInBounds_toArray, List.set_cons_zero, List.set_cons_succ]
      refine' wpAnyH_take (i := 3) (v := _) (by simp only [List.getElem?_toArray, List.getElem?_cons_succ, List.getElem?_cons_zero]; exact rfl) (by kernel_rfl) (by kernel_rfl) (by kernel_rfl) (fun _ _ _ h => h) (Or.inl ⟨by rfl, ?y3x26⟩) hHeld ?r3x26
      case y3x26 => (intro w hSw; (try dsimp only at hSw); go_simp; try with_reducible rfl)
      try simp only [Act.put, List.setIfInBounds_toArray, List.set_cons_zero, List.set_cons_succ]
      refine wpAnyH_take (i := 4) (v := undef) (by simp only [List.getElem?_toArray, List.getElem?_cons_succ, List.getElem?_cons_zero]; exact rfl) (by kernel_rfl) (by kernel_rfl) (by kernel_rfl) (fun _ _ _ h => h) (Or.inr ⟨by rfl, rfl⟩) hHeld ?_
      try simp only [Act.put, List.setIfInBounds_toArray, List.set_cons_zero, List.set_cons_succ]
      refine' wpAnyH_take (i := 5) (v := _) (by simp only [List.getElem?_toArray, List.getElem?_cons_succ, List.getElem?_cons_zero]; exact rfl) (by kernel_rfl) (by kernel_rfl) (by kernel_rfl) (fun _ _ _ h => h) (Or.inl ⟨by rfl, ?y5x27⟩) hHeld ?r5x27
      case y5x27 => (intro w hSw; (try dsimp only at hSw); go_simp; try with_reducible rfl)
      try simp only [Act.put, List.setIfInBounds_toArray, List.set_cons_zero, List.set_cons_succ]
      refine' wpAnyH_take (i := 6) (v := _) (by simp only [List.getElem?_toArray, List.getElem?_cons_succ, List.getElem?_cons_zero]; exact rfl) (by kernel_rfl) (by kernel_rfl) (by kernel_rfl) (fun _ _ _ h => h) (Or.inl ⟨by rfl, ?y6x28⟩) hHeld ?r6x28
      case y6x28 => (intro w hSw; (try dsimp only at hSw); go_simp; try with_reducible rfl)
      try simp only [Act.put, List.setIfInBounds_toArray, List.set_cons_zero, List.set_cons_succ]
      refine wpAnyH_take (i := 7) (v := undef) (by simp only [List.getElem?_toArray, List.getElem?_cons_succ, List.getElem?_cons_zero]; exact rfl) (by kernel_rfl) (by kernel_rfl) (by kernel_rfl) (fun _ _ _ h => h) (Or.inr ⟨by rfl, rfl⟩) hHeld ?_
      try simp only [Act.put, List.setIfInBounds_toArray, List.set_cons_zero, List.set_cons_succ]
      refine wpAnyH_take (i := 8) (v := undef) (by simp only [List.getElem?_toArray, List.getElem?_cons_succ, List.getElem?_cons_zero]; exact rfl) (by kernel_rfl) (by kernel_rfl) (by kernel_rfl) (fun _ _ _ h => h) (Or.inr ⟨by rfl, rfl⟩) hHeld ?_
      try simp only [Act.put, List.setIfInBounds_toArray, List.set_cons_zero, List.set_cons_succ]
      refine wpAnyH_take (i := 9) (v := undef) (by simp only [List.getElem?_toArray, List.getElem?_cons_succ, List.getElem?_cons_zero]; exact rfl) (by kernel_rfl) (by kernel_rfl) (by kernel_rfl) (fun _ _ _ h => h) (Or.inr ⟨by rfl, rfl⟩) hHeld ?_
      try simp only [Act.put, List.setIfInBounds_toArray, List.set_cons_zero, List.set_cons_succ]
      refine wpAnyH_take (i := 10) (v := undef) (by simp only [List.getElem?_toArray, List.getElem?_cons_succ, List.getElem?_cons_zero]; exact rfl) (by kernel_rfl) (by kernel_rfl) (by kernel_rfl) (fun _ _ _ h => h) (Or.inr ⟨by rfl, rfl⟩) hHeld ?_
      try simp only [Act.put, List.setIfInBounds_toArray, List.set_cons_zero, List.set_cons_succ]
      refine wpAnyH_take (i := 11) (v := undef) (by simp only [List.getElem?_toArray, List.getElem?_cons_succ, List.getElem?_cons_zero]; exact rfl) (by kernel_rfl) (by kernel_rfl) (by kernel_rfl) (fun _ _ _ h => h) (Or.inr ⟨by rfl, rfl⟩) hHeld ?_
      try simp only [Act.put, List.setIfInBounds_toArray, List.set_cons_zero, List.set_cons_succ]
      refine wpAnyH_take (i := 12) (v := undef) (by simp only [List.getElem?_toArray, List.getElem?_cons_succ, List.getElem?_cons_zero]; exact rfl) (by kernel_rfl) (by kernel_rfl) (by kernel_rfl) (fun _ _ _ h => h) (Or.inr ⟨by rfl, rfl⟩) hHeld ?_
      try simp only [Act.put, List.setIfInBounds_toArray, List.set_cons_zero, List.set_cons_succ]
      refine wpAnyH_take (i := 13) (v := undef) (by simp only [List.getElem?_toArray, List.getElem?_cons_succ, List.getElem?_cons_zero]; exact rfl) (by kernel_rfl) (by kernel_rfl) (by kernel_rfl) (fun _ _ _ h => h) (Or.inr ⟨by rfl, rfl⟩) hHeld ?_
      try simp only [Act.put, List.setIfInBounds_toArray, List.set_cons_zero, List.set_cons_succ]
      refine wpAnyH_take (i := 14) (v := undef) (by simp only [List.getElem?_toArray, List.getElem?_cons_succ, List.getElem?_cons_zero]; exact rfl) (by kernel_rfl) (by kernel_rfl) (by kernel_rfl) (fun _ _ _ h => h) (Or.inr ⟨by rfl, rfl⟩) hHeld ?_
      try simp only [Act.put, List.setIfInBounds_toArray, List.set_cons_zero, List.set_cons_succ]
      refine' wpAnyH_take (i := 15) (v := _) (by simp only [List.getElem?_toArray, List.getElem?_cons_succ, List.getElem?_cons_zero]; exact rfl) (by kernel_rfl) (by kernel_rfl) (by kernel_rfl) (fun _ _ _ h => h) (Or.inl ⟨by rfl, ?y15x29⟩) hHeld ?r15x29
      case y15x29 => (intro w hSw; (try dsimp only at hSw); go_simp; try with_reducible rfl)
      try simp only [Act.put, List.setIfInBounds_toArray, List.set_cons_zero, List.set_cons_succ]
      refine wpAnyH_done (by kernel_rfl) ?_ _
      refine NoPanic.normal ?_
      obtain ⟨qL, qG, qK, qF, qT, qS, qM, -, qB⟩ := hHeld
      have Lh18 := Lib.hid qL
      have Gh18 := Lib.hid qG
      have Kh18 := Lib.hid qK
      have Fh18 := Lib.hid qF
      have Th18 := Lib.hid qT
      have Sh18 := Lib.hid qS
      have Mh18 := Lib.hid qM
      have HB18 := Lib.hid qB
      clear qB qL qG qK qF qT qS qM Lh17 Gh17 Kh17 Fh17 Th17 Sh17 Mh17 HB17
      go_wp2_with fail
      go_meet
      exact ⟨rfl, Lh18.out, Gh18.out, Kh18.out, Fh18.out, Th18.out, Sh18.out, Mh18.out, HB18.out⟩
  obtain ⟨rfl, qL, qG, qK, qF, qT, qS, qM, qB⟩ := hcut
  have Lh18 := Lib.hid qL
  have Gh18 := Lib.hid qG
  have Kh18 := Lib.hid qK
  have Fh18 := Lib.hid qF
  have Th18 := Lib.hid qT
  have Sh18 := Lib.hid qS
  have Mh18 := Lib.hid qM
  have HB18 := Lib.hid qB
  clear qB qL qG qK qF qT qS qM Lh17 Gh17 Kh17 Fh17 Th17 Sh17 Mh17 HB17
  have cL4 := rowN Lh18.out 4 (.slice a0 l.rate.length n0) rfl
  have z6 : wc.frozen? ⟨bM, 4, none⟩ = false := frozen_of_row _ _ _ _ _ Mh18.out
  have d6 := rowN Mh18.out 4 (.slice pc c.length qc) rfl
  go_upto_region 20 with fail
  have Mh19 : Hid ((wc.setCell ⟨bM, 4, none⟩ (.slice a0 l.rate.length n0)).heap[bM]? = some (.cells #[.string l.name, .int .i64 l.kind, .int .i64 l.src, .int .i64 l.dst, .slice a0 l.rate.length n0, .slice a1 l.band.lo.length n1, .slice a2 l.band.hi.length n2, .int .i64 l.positions, .int .i64 l.speed, .int .i64 l.leak, .int .i64 l.crest, .int .i64 l.num, .int .i64 l.den, .int .i64 l.prime, .int .i64 l.brk, .int .i64 l.backNum, .int .i64 l.backDen, .int .i64 l.delay] 26 (0, 0))) := Lib.hid ((heap_setCell_same _ _ _ _ _ _ Mh18.out).trans rfl)
  have Lh19 : Hid ((wc.setCell ⟨bM, 4, none⟩ (.slice a0 l.rate.length n0)).heap[bL]? = some (.cells #[.string l.name, .int .i64 l.kind, .int .i64 l.src, .int .i64 l.dst, .slice a0 l.rate.length n0, .slice a1 l.band.lo.length n1, .slice a2 l.band.hi.length n2, .int .i64 l.positions, .int .i64 l.speed, .int .i64 l.leak, .int .i64 l.crest, .int .i64 l.num, .int .i64 l.den, .int .i64 l.prime, .int .i64 l.brk, .int .i64 l.backNum, .int .i64 l.backDen, .int .i64 l.delay] 26 (0, 0))) := Lib.hid ((heap_setCell_other _ _ _ _ ne_L_M).trans Lh18.out)
  have Gh19 : Hid ((wc.setCell ⟨bM, 4, none⟩ (.slice a0 l.rate.length n0)).heap[(w.heap.size + 1)]? = some (.cells #[.int .i64 g.pos, .int .i64 g.target, .bool g.stuck, .bool g.opened] 28 (0, 0))) := Lib.hid ((heap_setCell_other _ _ _ _ ne_G_M).trans Gh18.out)
  have Kh19 : Hid ((wc.setCell ⟨bM, 4, none⟩ (.slice a0 l.rate.length n0)).heap[(w.heap.size + 1 + 1)]? = some (.cells #[.int .i64 k.pos.lo, .int .i64 k.pos.hi, .int .i64 k.target, .int .i64 k.opened.lo, .int .i64 k.opened.hi] 52 (0, 0))) := Lib.hid ((heap_setCell_other _ _ _ _ ne_K_M).trans Kh18.out)
  have Fh19 : Hid ((wc.setCell ⟨bM, 4, none⟩ (.slice a0 l.rate.length n0)).heap[(w.heap.size + 1 + 1 + 1)]? = some (.cells #[.int .i64 fr.lo, .int .i64 fr.hi] 50 (0, 0))) := Lib.hid ((heap_setCell_other _ _ _ _ ne_F_M).trans Fh18.out)
  have Th19 : Hid ((wc.setCell ⟨bM, 4, none⟩ (.slice a0 l.rate.length n0)).heap[(w.heap.size + 1 + 1 + 1 + 1)]? = some (.cells #[.int .i64 tt.lo, .int .i64 tt.hi] 50 (0, 0))) := Lib.hid ((heap_setCell_other _ _ _ _ ne_T_M).trans Th18.out)
  have Sh19 : Hid ((wc.setCell ⟨bM, 4, none⟩ (.slice a0 l.rate.length n0)).heap[bS]? = some (.cells #[.int .i64 sl, .int .i64 sh] 50 (0, 0))) := Lib.hid ((heap_setCell_other _ _ _ _ ne_S_M).trans Sh18.out)
  have HB19 : Hid (Below w.heap.size w (wc.setCell ⟨bM, 4, none⟩ (.slice a0 l.rate.length n0))) := Lib.hid (HB18.out.setCell le_M _)
  clear z6 d6 HB18 Lh18 Gh18 Kh18 Fh18 Th18 Sh18 Mh18
  generalize (wc.setCell ⟨bM, 4, none⟩ (.slice a0 l.rate.length n0)) = w19 at *
  clear cL4
  have cL4 := rowN Lh19.out 4 (.slice a0 l.rate.length n0) rfl
  have cM5 := rowN Mh19.out 5 (.slice a1 l.band.lo.length n1) rfl
  have cM6 := rowN Mh19.out 6 (.slice a2 l.band.hi.length n2) rfl
  have z6 : w19.frozen? ⟨bM, 5, none⟩ = false := frozen_of_row _ _ _ _ _ Mh19.out
  have hm6 : Hid ((w19.setCell ⟨bM, 5, none⟩ (.slice a0 l.rate.length n0)).heap[bM]? = some (.cells #[.string l.name, .int .i64 l.kind, .int .i64 l.src, .int .i64 l.dst, .slice a0 l.rate.length n0, .slice a0 l.rate.length n0, .slice a2 l.band.hi.length n2, .int .i64 l.positions, .int .i64 l.speed, .int .i64 l.leak, .int .i64 l.crest, .int .i64 l.num, .int .i64 l.den, .int .i64 l.prime, .int .i64 l.brk, .int .i64 l.backNum, .int .i64 l.backDen, .int .i64 l.delay] 26 (0, 0))) := Lib.hid ((heap_setCell_same _ _ _ _ _ _ Mh19.out).trans rfl)
  have d7 : (w19.setCell ⟨bM, 5, none⟩ (.slice a0 l.rate.length n0)).cell? ⟨bM, 6, none⟩ = some (.slice a2 l.band.hi.length n2) := (cell_of_row _ _ _ _ _ _ hm6.out).trans rfl
  have z7 : (w19.setCell ⟨bM, 5, none⟩ (.slice a0 l.rate.length n0)).frozen? ⟨bM, 6, none⟩ = false := frozen_of_row _ _ _ _ _ hm6.out
  go_upto_region 21 with fail
  have Mh20 : Hid (((w19.setCell ⟨bM, 5, none⟩ (.slice a0 l.rate.length n0)).setCell ⟨bM, 6, none⟩ (.slice a0 l.rate.length n0)).heap[bM]? = some (.cells #[.string l.name, .int .i64 l.kind, .int .i64 l.src, .int .i64 l.dst, .slice a0 l.rate.length n0, .slice a0 l.rate.length n0, .slice a0 l.rate.length n0, .int .i64 l.positions, .int .i64 l.speed, .int .i64 l.leak, .int .i64 l.crest, .int .i64 l.num, .int .i64 l.den, .int .i64 l.prime, .int .i64 l.brk, .int .i64 l.backNum, .int .i64 l.backDen, .int .i64 l.delay] 26 (0, 0))) := Lib.hid ((heap_setCell_same _ _ _ _ _ _ hm6.out).trans rfl)
  have Lh20 : Hid (((w19.setCell ⟨bM, 5, none⟩ (.slice a0 l.rate.length n0)).setCell ⟨bM, 6, none⟩ (.slice a0 l.rate.length n0)).heap[bL]? = some (.cells #[.string l.name, .int .i64 l.kind, .int .i64 l.src, .int .i64 l.dst, .slice a0 l.rate.length n0, .slice a1 l.band.lo.length n1, .slice a2 l.band.hi.length n2, .int .i64 l.positions, .int .i64 l.speed, .int .i64 l.leak, .int .i64 l.crest, .int .i64 l.num, .int .i64 l.den, .int .i64 l.prime, .int .i64 l.brk, .int .i64 l.backNum, .int .i64 l.backDen, .int .i64 l.delay] 26 (0, 0))) := Lib.hid (((heap_setCell_other _ _ _ _ ne_L_M).trans (heap_setCell_other _ _ _ _ ne_L_M)).trans Lh19.out)
  have Gh20 : Hid (((w19.setCell ⟨bM, 5, none⟩ (.slice a0 l.rate.length n0)).setCell ⟨bM, 6, none⟩ (.slice a0 l.rate.length n0)).heap[(w.heap.size + 1)]? = some (.cells #[.int .i64 g.pos, .int .i64 g.target, .bool g.stuck, .bool g.opened] 28 (0, 0))) := Lib.hid (((heap_setCell_other _ _ _ _ ne_G_M).trans (heap_setCell_other _ _ _ _ ne_G_M)).trans Gh19.out)
  have Kh20 : Hid (((w19.setCell ⟨bM, 5, none⟩ (.slice a0 l.rate.length n0)).setCell ⟨bM, 6, none⟩ (.slice a0 l.rate.length n0)).heap[(w.heap.size + 1 + 1)]? = some (.cells #[.int .i64 k.pos.lo, .int .i64 k.pos.hi, .int .i64 k.target, .int .i64 k.opened.lo, .int .i64 k.opened.hi] 52 (0, 0))) := Lib.hid (((heap_setCell_other _ _ _ _ ne_K_M).trans (heap_setCell_other _ _ _ _ ne_K_M)).trans Kh19.out)
  have Fh20 : Hid (((w19.setCell ⟨bM, 5, none⟩ (.slice a0 l.rate.length n0)).setCell ⟨bM, 6, none⟩ (.slice a0 l.rate.length n0)).heap[(w.heap.size + 1 + 1 + 1)]? = some (.cells #[.int .i64 fr.lo, .int .i64 fr.hi] 50 (0, 0))) := Lib.hid (((heap_setCell_other _ _ _ _ ne_F_M).trans (heap_setCell_other _ _ _ _ ne_F_M)).trans Fh19.out)
  have Th20 : Hid (((w19.setCell ⟨bM, 5, none⟩ (.slice a0 l.rate.length n0)).setCell ⟨bM, 6, none⟩ (.slice a0 l.rate.length n0)).heap[(w.heap.size + 1 + 1 + 1 + 1)]? = some (.cells #[.int .i64 tt.lo, .int .i64 tt.hi] 50 (0, 0))) := Lib.hid (((heap_setCell_other _ _ _ _ ne_T_M).trans (heap_setCell_other _ _ _ _ ne_T_M)).trans Th19.out)
  have Sh20 : Hid (((w19.setCell ⟨bM, 5, none⟩ (.slice a0 l.rate.length n0)).setCell ⟨bM, 6, none⟩ (.slice a0 l.rate.length n0)).heap[bS]? = some (.cells #[.int .i64 sl, .int .i64 sh] 50 (0, 0))) := Lib.hid (((heap_setCell_other _ _ _ _ ne_S_M).trans (heap_setCell_other _ _ _ _ ne_S_M)).trans Sh19.out)
  have HB20 : Hid (Below w.heap.size w ((w19.setCell ⟨bM, 5, none⟩ (.slice a0 l.rate.length n0)).setCell ⟨bM, 6, none⟩ (.slice a0 l.rate.length n0))) := Lib.hid ((HB19.out.setCell le_M _).setCell le_M _)
  clear z6 hm6 d7 z7 HB19 Lh19 Gh19 Kh19 Fh19 Th19 Sh19 Mh19
  generalize ((w19.setCell ⟨bM, 5, none⟩ (.slice a0 l.rate.length n0)).setCell ⟨bM, 6, none⟩ (.slice a0 l.rate.length n0)) = w20 at *
  clear cL4 cM5 cM6
  go_cut [26] (fun s26 wx => ∃ bH, s26 = .pointer (some ⟨bH, 0, none⟩) ∧ wx.heap[bL]? = some (.cells #[.string l.name, .int .i64 l.kind, .int .i64 l.src, .int .i64 l.dst, .slice a0 l.rate.length n0, .slice a1 l.band.lo.length n1, .slice a2 l.band.hi.length n2, .int .i64 l.positions, .int .i64 l.speed, .int .i64 l.leak, .int .i64 l.crest, .int .i64 l.num, .int .i64 l.den, .int .i64 l.prime, .int .i64 l.brk, .int .i64 l.backNum, .int .i64 l.backDen, .int .i64 l.delay] 26 (0, 0)) ∧ wx.heap[(w.heap.size + 1)]? = some (.cells #[.int .i64 g.pos, .int .i64 g.target, .bool g.stuck, .bool g.opened] 28 (0, 0)) ∧ wx.heap[(w.heap.size + 1 + 1)]? = some (.cells #[.int .i64 k.pos.lo, .int .i64 k.pos.hi, .int .i64 k.target, .int .i64 k.opened.lo, .int .i64 k.opened.hi] 52 (0, 0)) ∧ wx.heap[(w.heap.size + 1 + 1 + 1)]? = some (.cells #[.int .i64 fr.lo, .int .i64 fr.hi] 50 (0, 0)) ∧ wx.heap[(w.heap.size + 1 + 1 + 1 + 1)]? = some (.cells #[.int .i64 tt.lo, .int .i64 tt.hi] 50 (0, 0)) ∧ wx.heap[bS]? = some (.cells #[.int .i64 sl, .int .i64 sh] 50 (0, 0)) ∧ wx.heap[bM]? = some (.cells #[.string l.name, .int .i64 l.kind, .int .i64 l.src, .int .i64 l.dst, .slice a0 l.rate.length n0, .slice a0 l.rate.length n0, .slice a0 l.rate.length n0, .int .i64 l.positions, .int .i64 l.speed, .int .i64 l.leak, .int .i64 l.crest, .int .i64 l.num, .int .i64 l.den, .int .i64 l.prime, .int .i64 l.brk, .int .i64 l.backNum, .int .i64 l.backDen, .int .i64 l.delay] 26 (0, 0)) ∧ Below w.heap.size w wx ∧ wx.heap[bH]? = some (.cells #[.int .i64 g.pos, .int .i64 g.pos, .int .i64 g.target, .int .i64 st, .int .i64 st] 52 (0, 0)))
  case first => as_aux_lemma =>
    refine wp_region_noPanic ?_
    refine wp_region_held_drew (S := fun w' => w'.heap[bL]? = some (.cells #[.string l.name, .int .i64 l.kind, .int .i64 l.src, .int .i64 l.dst, .slice a0 l.rate.length n0, .slice a1 l.band.lo.length n1, .slice a2 l.band.hi.length n2, .int .i64 l.positions, .int .i64 l.speed, .int .i64 l.leak, .int .i64 l.crest, .int .i64 l.num, .int .i64 l.den, .int .i64 l.prime, .int .i64 l.brk, .int .i64 l.backNum, .int .i64 l.backDen, .int .i64 l.delay] 26 (0, 0)) ∧ w'.heap[(w.heap.size + 1)]? = some (.cells #[.int .i64 g.pos, .int .i64 g.target, .bool g.stuck, .bool g.opened] 28 (0, 0)) ∧ w'.heap[(w.heap.size + 1 + 1)]? = some (.cells #[.int .i64 k.pos.lo, .int .i64 k.pos.hi, .int .i64 k.target, .int .i64 k.opened.lo, .int .i64 k.opened.hi] 52 (0, 0)) ∧ w'.heap[(w.heap.size + 1 + 1 + 1)]? = some (.cells #[.int .i64 fr.lo, .int .i64 fr.hi] 50 (0, 0)) ∧ w'.heap[(w.heap.size + 1 + 1 + 1 + 1)]? = some (.cells #[.int .i64 tt.lo, .int .i64 tt.hi] 50 (0, 0)) ∧ w'.heap[bS]? = some (.cells #[.int .i64 sl, .int .i64 sh] 50 (0, 0)) ∧ w'.heap[bM]? = some (.cells #[.string l.name, .int .i64 l.kind, .int .i64 l.src, .int .i64 l.dst, .slice a0 l.rate.length n0, .slice a0 l.rate.length n0, .slice a0 l.rate.length n0, .int .i64 l.positions, .int .i64 l.speed, .int .i64 l.leak, .int .i64 l.crest, .int .i64 l.num, .int .i64 l.den, .int .i64 l.prime, .int .i64 l.brk, .int .i64 l.backNum, .int .i64 l.backDen, .int .i64 l.delay] 26 (0, 0)) ∧ w'.cell? ⟨(w.heap.size + 1), 0, none⟩ = some (.int .i64 g.pos) ∧ w'.cell? ⟨(w.heap.size + 1), 1, none⟩ = some (.int .i64 g.target) ∧ Below w.heap.size w w') (by kernel_rfl) (stepGc ⟨Lh20.out, Gh20.out, Kh20.out, Fh20.out, Th20.out, Sh20.out, Mh20.out, rowN Gh20.out 0 _ rfl, rowN Gh20.out 1 _ rfl, HB20.out⟩ (Below.refl _ _).drew) (fun hHeld => ?_)
    refine' wpAnyH_take (i := 0) (v := _) (by simp only [List.getElem?_toArray, List.getElem?_cons_zero]; exact rfl) (by kernel_rfl) (by kernel_rfl) (by kernel_rfl) (fun _ _ _ h => h) (Or.inl ⟨by rfl, ?y0x33⟩) hHeld ?r0x33
    case y0x33 => (intro w hSw; (try dsimp only at hSw); go_simp; try with_reducible rfl)
    try simp only [Act.put, List.setIfInBounds_toArray, List.set_cons_zero, List.set_cons_succ]
    refine' wpAnyH_take (i := 1) (v := _) (by simp only [List.getElem?_toArray, List.getElem?_cons_succ, List.getElem?_cons_zero]; exact rfl) (by kernel_rfl) (by kernel_rfl) (by kernel_rfl) (fun _ _ _ h => h) (Or.inl ⟨by rfl, ?y1x34⟩) hHeld ?r1x34
    case y1x34 => (intro w hSw; (try dsimp only at hSw); go_simp; try with_reducible rfl)
    try simp only [Act.put, List.setIfInBounds_toArray, List.set_cons_zero, List.set_cons_succ]
    refine' wpAnyH_take (i := 3) (v := _) (by simp only [List.getElem?_toArray, List.getElem?_cons_succ, List.getElem?_cons_zero]; exact rfl) (by kernel_rfl) (by kernel_rfl) (by kernel_rfl) (fun _ _ _ h => h) (Or.inl ⟨by rfl, ?y3x35⟩) hHeld ?r3x35
    case y3x35 => (intro w hSw; (try dsimp only at hSw); go_simp; try with_reducible rfl)
    try simp only [Act.put, List.setIfInBounds_toArray, List.set_cons_zero, List.set_cons_succ]
    refine' wpAnyH_take (i := 4) (v := _) (by simp only [List.getElem?_toArray, List.getElem?_cons_succ, List.getElem?_cons_zero]; exact rfl) (by kernel_rfl) (by kernel_rfl) (by kernel_rfl) (fun _ _ _ h => h) (Or.inl ⟨by rfl, ?y4x36⟩) hHeld ?r4x36
    case y4x36 => (intro w hSw; (try dsimp only at hSw); go_simp; try with_reducible rfl)
    try simp only [Act.put, List.setIfInBounds_toArray, List.set_cons_zero, List.set_cons_succ]
    refine' wpAnyH_take (i := 5) (v := _) (by simp only [List.getElem?_toArray, List.getElem?_cons_succ, List.getElem?_cons_zero]; exact rfl) (by kernel_rfl) (by kernel_rfl) (by kernel_rfl) (fun _ _ _ h => h) (Or.inl ⟨by rfl, ?y5x37⟩) hHeld ?r5x37
    case y5x37 => (intro w hSw; (try dsimp only at hSw); go_simp; try with_reducible rfl)
    try simp only [Act.put, List.setIfInBounds_toArray, List.set_cons_zero, List.set_cons_succ]
    refine wpAnyH_ready (rs := [2, 8]) (by kernel_rfl) (by simp) ?_
    refine AllReadyH.cons (by simp only [List.getElem?_toArray, List.getElem?_cons_succ, List.getElem?_cons_zero]; exact rfl) (fun K hK => ?_) (AllReadyH.cons (by simp only [List.getElem?_toArray, List.getElem?_cons_succ, List.getElem?_cons_zero]; exact rfl) (fun K hK => ?_) AllReadyH.nil)
    · go_simp
      refine (CU.out g.pos _).mono ?_
      rintro e w' ⟨rfl, hb⟩
      refine hK.out _ _ (stepGc hHeld hb) (fun hHeld => ?_)
      clear hK K hb
      try simp only [Act.put, List.setIfInBounds_toArray, List.set_cons_zero, List.set_cons_succ]
      refine wpAnyH_ready (rs := [6, 8]) (by kernel_rfl) (by simp) ?_
      refine AllReadyH.cons (by simp only [List.getElem?_toArray, List.getElem?_cons_succ, List.getElem?_cons_zero]; exact rfl) (fun K hK => ?_) (AllReadyH.cons (by simp only [List.getElem?_toArray, List.getElem?_cons_succ, List.getElem?_cons_zero]; exact rfl) (fun K hK => ?_) AllReadyH.nil)
      · go_simp
        refine (CU.out st _).mono ?_
        rintro e w' ⟨rfl, hb⟩
        refine hK.out _ _ (stepGc hHeld hb) (fun hHeld => ?_)
        clear hK K hb
        try simp only [Act.put, List.setIfInBounds_toArray, List.set_cons_zero, List.set_cons_succ]
        refine' wpAnyH_take (i := 7) (v := _) (by simp only [List.getElem?_toArray, List.getElem?_cons_succ, List.getElem?_cons_zero]; exact rfl) (by kernel_rfl) (by kernel_rfl) (by kernel_rfl) (fun _ _ _ h => h) (Or.inl ⟨by rfl, ?y7x30⟩) hHeld ?r7x30
        case y7x30 => (intro w hSw; (try dsimp only at hSw); go_simp; try with_reducible rfl)
        try simp only [Act.put, List.setIfInBounds_toArray, List.set_cons_zero, List.set_cons_succ]
        refine wpAnyH_ready (rs := [8]) (by kernel_rfl) (by simp) ?_
        refine AllReadyH.cons (by simp only [List.getElem?_toArray, List.getElem?_cons_succ, List.getElem?_cons_zero]; exact rfl) (fun K hK => ?_) AllReadyH.nil
        go_simp
        obtain ⟨bH, hS1, hZ, hbe, hle, n0, n1, n2, n3, n4, n5, n6⟩ := stepGcZ (o := (.cells #[.int .i64 0, .int .i64 0, .int .i64 0, .int .i64 0, .int .i64 0] 52)) hHeld
        rw [← hbe]
        refine hK.out _ _ hS1 (fun hHeld => ?_)
        clear hK K hS1 hbe
        try simp only [Act.put, List.setIfInBounds_toArray, List.set_cons_zero, List.set_cons_succ]
        refine wpAnyH_ready (rs := [9]) (by kernel_rfl) (by simp) ?_
        refine AllReadyH.cons (by simp only [List.getElem?_toArray, List.getElem?_cons_succ, List.getElem?_cons_zero]; exact rfl) (fun K hK => ?_) AllReadyH.nil
        rw [if_pos (by rfl)]
        refine wp_store_row 52 _ _ rfl bH #[.int .i64 g.pos, .int .i64 g.pos, .int .i64 g.target, .int .i64 st, .int .i64 st] rfl rfl 52 #[.int .i64 0, .int .i64 0, .int .i64 0, .int .i64 0, .int .i64 0] hZ infoKn rfl (by simp [Value.oneCell']) ?_
        have hH := setRow_heap _ _ _ #[.int .i64 g.pos, .int .i64 g.pos, .int .i64 g.target, .int .i64 st, .int .i64 st] _ _ hZ
        refine hK.out _ _ (stepGcR hHeld hle n0 n1 n2 n3 n4 n5 n6) (fun hHeld => ?_)
        clear hK K
        try simp only [Act.put, List.setIfInBounds_toArray, List.set_cons_zero, List.set_cons_succ]
        refine wpAnyH_done (by kernel_rfl) ?_ _
        refine NoPanic.normal ?_
        obtain ⟨qL, qG, qK, qF, qT, qS, qM, -, -, qB⟩ := hHeld
        go_wp2_with fail
        go_meet
        exact ⟨bH, rfl, qL, qG, qK, qF, qT, qS, qM, qB, hH⟩
      · go_simp
        obtain ⟨bH, hS1, hZ, hbe, hle, n0, n1, n2, n3, n4, n5, n6⟩ := stepGcZ (o := (.cells #[.int .i64 0, .int .i64 0, .int .i64 0, .int .i64 0, .int .i64 0] 52)) hHeld
        rw [← hbe]
        refine hK.out _ _ hS1 (fun hHeld => ?_)
        clear hK K hS1 hbe
        try simp only [Act.put, List.setIfInBounds_toArray, List.set_cons_zero, List.set_cons_succ]
        refine wpAnyH_ready (rs := [6]) (by kernel_rfl) (by simp) ?_
        refine AllReadyH.cons (by simp only [List.getElem?_toArray, List.getElem?_cons_succ, List.getElem?_cons_zero]; exact rfl) (fun K hK => ?_) AllReadyH.nil
        go_simp
        refine (CU.out st _).mono ?_
        rintro e w' ⟨rfl, hb⟩
        have hZ := blk_below hZ hb (blk_lt hZ)
        refine hK.out _ _ (stepGc hHeld hb) (fun hHeld => ?_)
        clear hK K hb
        try simp only [Act.put, List.setIfInBounds_toArray, List.set_cons_zero, List.set_cons_succ]
        refine' wpAnyH_take (i := 7) (v := _) (by simp only [List.getElem?_toArray, List.getElem?_cons_succ, List.getElem?_cons_zero]; exact rfl) (by kernel_rfl) (by kernel_rfl) (by kernel_rfl) (fun _ _ _ h => h) (Or.inl ⟨by rfl, ?y7x31⟩) hHeld ?r7x31
        case y7x31 => (intro w hSw; (try dsimp only at hSw); go_simp; try with_reducible rfl)
        try simp only [Act.put, List.setIfInBounds_toArray, List.set_cons_zero, List.set_cons_succ]
        refine wpAnyH_ready (rs := [9]) (by kernel_rfl) (by simp) ?_
        refine AllReadyH.cons (by simp only [List.getElem?_toArray, List.getElem?_cons_succ, List.getElem?_cons_zero]; exact rfl) (fun K hK => ?_) AllReadyH.nil
        rw [if_pos (by rfl)]
        refine wp_store_row 52 _ _ rfl bH #[.int .i64 g.pos, .int .i64 g.pos, .int .i64 g.target, .int .i64 st, .int .i64 st] rfl rfl 52 #[.int .i64 0, .int .i64 0, .int .i64 0, .int .i64 0, .int .i64 0] hZ infoKn rfl (by simp [Value.oneCell']) ?_
        have hH := setRow_heap _ _ _ #[.int .i64 g.pos, .int .i64 g.pos, .int .i64 g.target, .int .i64 st, .int .i64 st] _ _ hZ
        refine hK.out _ _ (stepGcR hHeld hle n0 n1 n2 n3 n4 n5 n6) (fun hHeld => ?_)
        clear hK K
        try simp only [Act.put, List.setIfInBounds_toArray, List.set_cons_zero, List.set_cons_succ]
        refine wpAnyH_done (by kernel_rfl) ?_ _
        refine NoPanic.normal ?_
        obtain ⟨qL, qG, qK, qF, qT, qS, qM, -, -, qB⟩ := hHeld
        go_wp2_with fail
        go_meet
        exact ⟨bH, rfl, qL, qG, qK, qF, qT, qS, qM, qB, hH⟩
    · go_simp
      obtain ⟨bH, hS1, hZ, hbe, hle, n0, n1, n2, n3, n4, n5, n6⟩ := stepGcZd (o := (.cells #[.int .i64 0, .int .i64 0, .int .i64 0, .int .i64 0, .int .i64 0] 52)) hHeld
      rw [← hbe]
      refine hK.out _ _ hS1 (fun hHeld => ?_)
      clear hK K hS1 hbe
      try simp only [Act.put, List.setIfInBounds_toArray, List.set_cons_zero, List.set_cons_succ]
      refine wpAnyH_ready (rs := [2]) (by kernel_rfl) (by simp) ?_
      refine AllReadyH.cons (by simp only [List.getElem?_toArray, List.getElem?_cons_succ, List.getElem?_cons_zero]; exact rfl) (fun K hK => ?_) AllReadyH.nil
      go_simp
      refine (CU.out g.pos _).mono ?_
      rintro e w' ⟨rfl, hb⟩
      have hZ := blk_below hZ hb (blk_lt hZ)
      refine hK.out _ _ (stepGc hHeld hb) (fun hHeld => ?_)
      clear hK K hb
      try simp only [Act.put, List.setIfInBounds_toArray, List.set_cons_zero, List.set_cons_succ]
      refine wpAnyH_ready (rs := [6]) (by kernel_rfl) (by simp) ?_
      refine AllReadyH.cons (by simp only [List.getElem?_toArray, List.getElem?_cons_succ, List.getElem?_cons_zero]; exact rfl) (fun K hK => ?_) AllReadyH.nil
      go_simp
      refine (CU.out st _).mono ?_
      rintro e w' ⟨rfl, hb⟩
      have hZ := blk_below hZ hb (blk_lt hZ)
      refine hK.out _ _ (stepGc hHeld hb) (fun hHeld => ?_)
      clear hK K hb
      try simp only [Act.put, List.setIfInBounds_toArray, List.set_cons_zero, List.set_cons_succ]
      refine' wpAnyH_take (i := 7) (v := _) (by simp only [List.getElem?_toArray, List.getElem?_cons_succ, List.getElem?_cons_zero]; exact rfl) (by kernel_rfl) (by kernel_rfl) (by kernel_rfl) (fun _ _ _ h => h) (Or.inl ⟨by rfl, ?y7x32⟩) hHeld ?r7x32
      case y7x32 => (intro w hSw; (try dsimp only at hSw); go_simp; try with_reducible rfl)
      try simp only [Act.put, List.setIfInBounds_toArray, List.set_cons_zero, List.set_cons_succ]
      refine wpAnyH_ready (rs := [9]) (by kernel_rfl) (by simp) ?_
      refine AllReadyH.cons (by simp only [List.getElem?_toArray, List.getElem?_cons_succ, List.getElem?_cons_zero]; exact rfl) (fun K hK => ?_) AllReadyH.nil
      rw [if_pos (by rfl)]
      refine wp_store_row 52 _ _ rfl bH #[.int .i64 g.pos, .int .i64 g.pos, .int .i64 g.target, .int .i64 st, .int .i64 st] rfl rfl 52 #[.int .i64 0, .int .i64 0, .int .i64 0, .int .i64 0, .int .i64 0] hZ infoKn rfl (by simp [Value.oneCell']) ?_
      have hH := setRow_heap _ _ _ #[.int .i64 g.pos, .int .i64 g.pos, .int .i64 g.target, .int .i64 st, .int .i64 st] _ _ hZ
      refine hK.out _ _ (stepGcR hHeld hle n0 n1 n2 n3 n4 n5 n6) (fun hHeld => ?_)
      clear hK K
      try simp only [Act.put, List.setIfInBounds_toArray, List.set_cons_zero, List.set_cons_succ]
      refine wpAnyH_done (by kernel_rfl) ?_ _
      refine NoPanic.normal ?_
      obtain ⟨qL, qG, qK, qF, qT, qS, qM, -, -, qB⟩ := hHeld
      go_wp2_with fail
      go_meet
      exact ⟨bH, rfl, qL, qG, qK, qF, qT, qS, qM, qB, hH⟩
  obtain ⟨bH, rfl, qL, qG, qK, qF, qT, qS, qM, qB, qH⟩ := hcut
  have Lh21 := Lib.hid qL
  have Gh21 := Lib.hid qG
  have Kh21 := Lib.hid qK
  have Fh21 := Lib.hid qF
  have Th21 := Lib.hid qT
  have Sh21 := Lib.hid qS
  have Mh21 := Lib.hid qM
  have Hh21 := Lib.hid qH
  have HB21 := Lib.hid qB
  clear qB qH qL qG qK qF qT qS qM Lh20 Gh20 Kh20 Fh20 Th20 Sh20 Mh20 HB20
  as_aux_lemma =>
    clear Gh21
    go_upto_region 22 with fail
    have q6 := eqS
    refine wp_region_noPanic ?_
    refine wp_region_held_drew (S := fun w' => w'.heap[bL]? = some (.cells #[.string l.name, .int .i64 l.kind, .int .i64 l.src, .int .i64 l.dst, .slice a0 l.rate.length n0, .slice a1 l.band.lo.length n1, .slice a2 l.band.hi.length n2, .int .i64 l.positions, .int .i64 l.speed, .int .i64 l.leak, .int .i64 l.crest, .int .i64 l.num, .int .i64 l.den, .int .i64 l.prime, .int .i64 l.brk, .int .i64 l.backNum, .int .i64 l.backDen, .int .i64 l.delay] 26 (0, 0)) ∧ w'.heap[(w.heap.size + 1 + 1)]? = some (.cells #[.int .i64 k.pos.lo, .int .i64 k.pos.hi, .int .i64 k.target, .int .i64 k.opened.lo, .int .i64 k.opened.hi] 52 (0, 0)) ∧ w'.heap[(w.heap.size + 1 + 1 + 1)]? = some (.cells #[.int .i64 fr.lo, .int .i64 fr.hi] 50 (0, 0)) ∧ w'.heap[(w.heap.size + 1 + 1 + 1 + 1)]? = some (.cells #[.int .i64 tt.lo, .int .i64 tt.hi] 50 (0, 0)) ∧ w'.heap[bS]? = some (.cells #[.int .i64 sl, .int .i64 sh] 50 (0, 0)) ∧ w'.heap[bM]? = some (.cells #[.string l.name, .int .i64 l.kind, .int .i64 l.src, .int .i64 l.dst, .slice a0 l.rate.length n0, .slice a0 l.rate.length n0, .slice a0 l.rate.length n0, .int .i64 l.positions, .int .i64 l.speed, .int .i64 l.leak, .int .i64 l.crest, .int .i64 l.num, .int .i64 l.den, .int .i64 l.prime, .int .i64 l.brk, .int .i64 l.backNum, .int .i64 l.backDen, .int .i64 l.delay] 26 (0, 0)) ∧ w'.heap[bH]? = some (.cells #[.int .i64 g.pos, .int .i64 g.pos, .int .i64 g.target, .int .i64 st, .int .i64 st] 52 (0, 0)) ∧ Below w.heap.size w w') (by kernel_rfl) (stepG ⟨Lh21.out, Kh21.out, Fh21.out, Th21.out, Sh21.out, Mh21.out, Hh21.out, HB21.out⟩ (Below.refl _ _).drew) (fun hHeld => ?_)
    refine' wpAnyH_take (i := 0) (v := _) (by simp only [List.getElem?_toArray, List.getElem?_cons_zero]; exact rfl) (by kernel_rfl) (by kernel_rfl) (by kernel_rfl) (fun _ _ _ h => h) (Or.inl ⟨by rfl, ?y0x38⟩) hHeld ?r0x38
    case y0x38 => (intro w hSw; (try dsimp only at hSw); go_simp; try with_reducible rfl)
    try simp only [Act.put, List.setIfInBounds_toArray, List.set_cons_zero, List.set_cons_succ]
    refine' wpAnyH_take (i := 1) (v := _) (by simp only [List.getElem?_toArray, List.getElem?_cons_succ, List.getElem?_cons_zero]; exact rfl) (by kernel_rfl) (by kernel_rfl) (by kernel_rfl) (fun _ _ _ h => h) (Or.inl ⟨by rfl, ?y1x39⟩) hHeld ?r1x39
    case y1x39 => (intro w hSw; (try dsimp only at hSw); go_simp; try with_reducible rfl)
    try simp only [Act.put, List.setIfInBounds_toArray, List.set_cons_zero, List.set_cons_succ]
    refine' wpAnyH_take (i := 2) (v := _) (by simp only [List.getElem?_toArray, List.getElem?_cons_succ, List.getElem?_cons_zero]; exact rfl) (by kernel_rfl) (by kernel_rfl) (by kernel_rfl) (fun _ _ _ h => h) (Or.inl ⟨by rfl, ?y2x40⟩) hHeld ?r2x40
    case y2x40 => (intro w hSw; refine exec_load_row 26 ?_ ?_ _ ?_ 26 _ _ _ (hSw.2.2.2.2.2.1) undLk rfl infoLk; rotate_left 1; exact rfl; exact rfl)
    try simp only [Act.put, List.setIfInBounds_toArray, List.set_cons_zero, List.set_cons_succ]
    refine' wpAnyH_take (i := 3) (v := _) (by simp only [List.getElem?_toArray, List.getElem?_cons_succ, List.getElem?_cons_zero]; exact rfl) (by kernel_rfl) (by kernel_rfl) (by kernel_rfl) (fun _ _ _ h => h) (Or.inl ⟨by rfl, ?y3x41⟩) hHeld ?r3x41
    case y3x41 => (intro w hSw; refine exec_load_row 52 ?_ ?_ _ ?_ 52 _ _ _ (hSw.2.2.2.2.2.2.1) undKn rfl infoKn; rotate_left 1; exact rfl; exact rfl)
    try simp only [Act.put, List.setIfInBounds_toArray, List.set_cons_zero, List.set_cons_succ]
    refine' wpAnyH_take (i := 4) (v := _) (by simp only [List.getElem?_toArray, List.getElem?_cons_succ, List.getElem?_cons_zero]; exact rfl) (by kernel_rfl) (by kernel_rfl) (by kernel_rfl) (fun _ _ _ h => h) (Or.inl ⟨by rfl, ?y4x42⟩) hHeld ?r4x42
    case y4x42 => (intro w hSw; (try dsimp only at hSw); go_simp; try with_reducible rfl)
    try simp only [Act.put, List.setIfInBounds_toArray, List.set_cons_zero, List.set_cons_succ]
    refine' wpAnyH_take (i := 6) (v := _) (by simp only [List.getElem?_toArray, List.getElem?_cons_succ, List.getElem?_cons_zero]; exact rfl) (by kernel_rfl) (by kernel_rfl) (by kernel_rfl) (fun _ _ _ h => h) (Or.inl ⟨by rfl, ?y6x43⟩) hHeld ?r6x43
    case y6x43 => (intro w hSw; (try dsimp only at hSw); go_simp; try with_reducible rfl)
    try simp only [Act.put, List.setIfInBounds_toArray, List.set_cons_zero, List.set_cons_succ]
    refine' wpAnyH_take (i := 9) (v := _) (by simp only [List.getElem?_toArray, List.getElem?_cons_succ, List.getElem?_cons_zero]; exact rfl) (by kernel_rfl) (by kernel_rfl) (by kernel_rfl) (fun _ _ _ h => h) (Or.inl ⟨by rfl, ?y9x44⟩) hHeld ?r9x44
    case y9x44 => (intro w hSw; (try dsimp only at hSw); go_simp; try with_reducible rfl)
    try simp only [Act.put, List.setIfInBounds_toArray, List.set_cons_zero, List.set_cons_succ]
    refine wpAnyH_ready (rs := [5]) (by kernel_rfl) (by simp) ?_
    refine AllReadyH.cons (by simp only [List.getElem?_toArray, List.getElem?_cons_succ, List.getElem?_cons_zero]; exact rfl) (fun K hK => ?_) AllReadyH.nil
    go_simp
    refine (CU.out v _).mono ?_
    rintro e w' ⟨rfl, hb⟩
    refine hK.out _ _ (stepG hHeld hb) (fun hHeld => ?_)
    clear hK K hb
    try simp only [Act.put, List.setIfInBounds_toArray, List.set_cons_zero, List.set_cons_succ]
    refine wpAnyH_ready (rs := [7]) (by kernel_rfl) (by simp) ?_
    refine AllReadyH.cons (by simp only [List.getElem?_toArray, List.getElem?_cons_succ, List.getElem?_cons_zero]; exact rfl) (fun K hK => ?_) AllReadyH.nil
    go_simp
    refine (CU.out y _).mono ?_
    rintro e w' ⟨rfl, hb⟩
    refine hK.out _ _ (stepG hHeld hb) (fun hHeld => ?_)
    clear hK K hb
    try simp only [Act.put, List.setIfInBounds_toArray, List.set_cons_zero, List.set_cons_succ]
    refine wpAnyH_ready (rs := [8]) (by kernel_rfl) (by simp) ?_
    refine AllReadyH.cons (by simp only [List.getElem?_toArray, List.getElem?_cons_succ, List.getElem?_cons_zero]; exact rfl) (fun K hK => ?_) AllReadyH.nil
    go_simp
    refine (C3.out _ hHeld.2.2.2.2.2.2.2).mono ?_
    rintro e w' ⟨rfl, hb⟩
    refine hK.out _ _ (stepG hHeld hb) (fun hHeld => ?_)
    clear hK K hb
    try simp only [Act.put, List.setIfInBounds_toArray, List.set_cons_zero, List.set_cons_succ]
    refine wpAnyH_ready (rs := [10]) (by kernel_rfl) (by simp) ?_
    refine AllReadyH.cons (by simp only [List.getElem?_toArray, List.getElem?_cons_succ, List.getElem?_cons_zero]; exact rfl) (fun K hK => ?_) AllReadyH.nil
    go_simp
    refine (CU.out a _).mono ?_
    rintro e w' ⟨rfl, hb⟩
    refine hK.out _ _ (stepG hHeld hb) (fun hHeld => ?_)
    clear hK K hb
    try simp only [Act.put, List.setIfInBounds_toArray, List.set_cons_zero, List.set_cons_succ]
    refine' wpAnyH_take (i := 11) (v := _) (by simp only [List.getElem?_toArray, List.getElem?_cons_succ, List.getElem?_cons_zero]; exact rfl) (by kernel_rfl) (by kernel_rfl) (by kernel_rfl) (fun _ _ _ h => h) (Or.inl ⟨by rfl, ?y11x45⟩) hHeld ?r11x45
    case y11x45 => (intro w hSw; (try dsimp only at hSw); go_simp; try with_reducible rfl)
    try simp only [Act.put, List.setIfInBounds_toArray, List.set_cons_zero, List.set_cons_succ]
    refine' wpAnyH_take (i := 12) (v := _) (by simp only [List.getElem?_toArray, List.getElem?_cons_succ, List.getElem?_cons_zero]; exact rfl) (by kernel_rfl) (by kernel_rfl) (by kernel_rfl) (fun _ _ _ h => h) (Or.inl ⟨by rfl, ?y12x46⟩) hHeld ?r12x46
    case y12x46 => (intro w hSw; (try dsimp only at hSw); go_simp; try with_reducible rfl)
    try simp only [Act.put, List.setIfInBounds_toArray, List.set_cons_zero, List.set_cons_succ]
    refine' wpAnyH_take (i := 13) (v := _) (by simp only [List.getElem?_toArray, List.getElem?_cons_succ, List.getElem?_cons_zero]; exact rfl) (by kernel_rfl) (by kernel_rfl) (by kernel_rfl) (fun _ _ _ h => h) (Or.inl ⟨by rfl, ?y13x47⟩) hHeld ?r13x47
    case y13x47 => (intro w hSw; (try dsimp only at hSw); go_simp; try with_reducible rfl)
    try simp only [Act.put, List.setIfInBounds_toArray, List.set_cons_zero, List.set_cons_succ]
    refine' wpAnyH_take (i := 14) (v := _) (by simp only [List.getElem?_toArray, List.getElem?_cons_succ, List.getElem?_cons_zero]; exact rfl) (by kernel_rfl) (by kernel_rfl) (by kernel_rfl) (fun _ _ _ h => h) (Or.inl ⟨by rfl, ?y14x48⟩) hHeld ?r14x48
    case y14x48 => (intro w hSw; refine exec_load_row 26 ?_ ?_ _ ?_ 26 _ _ _ (hSw.1) undLk rfl infoLk; rotate_left 1; exact rfl; exact rfl)
    try simp only [Act.put, List.setIfInBounds_toArray, List.set_cons_zero, List.set_cons_succ]
    refine' wpAnyH_take (i := 15) (v := _) (by simp only [List.getElem?_toArray, List.getElem?_cons_succ, List.getElem?_cons_zero]; exact rfl) (by kernel_rfl) (by kernel_rfl) (by kernel_rfl) (fun _ _ _ h => h) (Or.inl ⟨by rfl, ?y15x49⟩) hHeld ?r15x49
    case y15x49 => (intro w hSw; refine exec_load_row 52 ?_ ?_ _ ?_ 52 _ _ _ (hSw.2.2.2.2.2.2.1) undKn rfl infoKn; rotate_left 1; exact rfl; exact rfl)
    try simp only [Act.put, List.setIfInBounds_toArray, List.set_cons_zero, List.set_cons_succ]
    refine' wpAnyH_take (i := 16) (v := _) (by simp only [List.getElem?_toArray, List.getElem?_cons_succ, List.getElem?_cons_zero]; exact rfl) (by kernel_rfl) (by kernel_rfl) (by kernel_rfl) (fun _ _ _ h => h) (Or.inl ⟨by rfl, ?y16x50⟩) hHeld ?r16x50
    case y16x50 => (intro w hSw; refine exec_load_row 50 ?_ ?_ _ ?_ 50 _ _ _ (hSw.2.2.1) undSp rfl infoSp; rotate_left 1; exact rfl; exact rfl)
    try simp only [Act.put, List.setIfInBounds_toArray, List.set_cons_zero, List.set_cons_succ]
    refine' wpAnyH_take (i := 17) (v := _) (by simp only [List.getElem?_toArray, List.getElem?_cons_succ, List.getElem?_cons_zero]; exact rfl) (by kernel_rfl) (by kernel_rfl) (by kernel_rfl) (fun _ _ _ h => h) (Or.inl ⟨by rfl, ?y17x51⟩) hHeld ?r17x51
    case y17x51 => (intro w hSw; refine exec_load_row 50 ?_ ?_ _ ?_ 50 _ _ _ (hSw.2.2.2.1) undSp rfl infoSp; rotate_left 1; exact rfl; exact rfl)
    try simp only [Act.put, List.setIfInBounds_toArray, List.set_cons_zero, List.set_cons_succ]
    refine' wpAnyH_take (i := 19) (v := _) (by simp only [List.getElem?_toArray, List.getElem?_cons_succ, List.getElem?_cons_zero]; exact rfl) (by kernel_rfl) (by kernel_rfl) (by kernel_rfl) (fun _ _ _ h => h) (Or.inl ⟨by rfl, ?y19x52⟩) hHeld ?r19x52
    case y19x52 => (intro w hSw; refine exec_load_row 50 ?_ ?_ _ ?_ 50 _ _ _ (hSw.2.2.2.2.1) undSp rfl infoSp; rotate_left 1; exact rfl; exact rfl)
    try simp only [Act.put, List.setIfInBounds_toArray, List.set_cons_zero, List.set_cons_succ]
    refine wpAnyH_ready (rs := [18]) (by kernel_rfl) (by simp) ?_
    refine AllReadyH.cons (by simp only [List.getElem?_toArray, List.getElem?_cons_succ, List.getElem?_cons_zero]; exact rfl) (fun K hK => ?_) AllReadyH.nil
    go_simp
    refine (C4.out _ hHeld.2.2.2.2.2.2.2).mono ?_
    rintro e w' ⟨rfl, hb⟩
    refine hK.out _ _ (stepG hHeld hb) (fun hHeld => ?_)
    clear hK K hb
    try simp only [Act.put, List.setIfInBounds_toArray, List.set_cons_zero, List.set_cons_succ]
    refine wpAnyH_ready (rs := [20]) (by kernel_rfl) (by simp) ?_
    refine AllReadyH.cons (by simp only [List.getElem?_toArray, List.getElem?_cons_succ, List.getElem?_cons_zero]; exact rfl) (fun K hK => ?_) AllReadyH.nil
    go_simp
    refine (CW1.out _ hHeld.2.2.2.2.2.2.2).mono ?_
    rintro e w' ⟨rfl, hb⟩
    refine hK.out _ _ (stepG hHeld hb) (fun hHeld => ?_)
    clear hK K hb
    try simp only [Act.put, List.setIfInBounds_toArray, List.set_cons_zero, List.set_cons_succ]
    refine' wpAnyH_take (i := 21) (v := _) (by simp only [List.getElem?_toArray, List.getElem?_cons_succ, List.getElem?_cons_zero]; exact rfl) (by kernel_rfl) (by kernel_rfl) (by kernel_rfl) (fun _ _ _ h => h) (Or.inl ⟨by rfl, ?y21x53⟩) hHeld ?r21x53
    case y21x53 => (intro w hSw; (try dsimp only at hSw); go_simp; try with_reducible rfl)
    try simp only [Act.put, List.setIfInBounds_toArray, List.set_cons_zero, List.set_cons_succ]
    refine' wpAnyH_take (i := 22) (v := _) (by simp only [List.getElem?_toArray, List.getElem?_cons_succ, List.getElem?_cons_zero]; exact rfl) (by kernel_rfl) (by kernel_rfl) (by kernel_rfl) (fun _ _ _ h => h) (Or.inl ⟨by rfl, ?y22x54⟩) hHeld ?r22x54
    case y22x54 => (intro w hSw; (try dsimp only at hSw); go_simp; try with_reducible rfl)
    try simp only [Act.put, List.setIfInBounds_toArray, List.set_cons_zero, List.set_cons_succ]
    refine' wpAnyH_take (i := 23) (v := _) (by simp only [List.getElem?_toArray, List.getElem?_cons_succ, List.getElem?_cons_zero]; exact rfl) (by kernel_rfl) (by kernel_rfl) (by kernel_rfl) (fun _ _ _ h => h) (Or.inl ⟨by rfl, ?y23x55⟩) hHeld ?r23x55
    case y23x55 => (intro w hSw; refine exec_load_row 26 ?_ ?_ _ ?_ 26 _ _ _ (hSw.1) undLk rfl infoLk; rotate_left 1; exact rfl; exact rfl)
    try simp only [Act.put, List.setIfInBounds_toArray, List.set_cons_zero, List.set_cons_succ]
    refine' wpAnyH_take (i := 24) (v := _) (by simp only [List.getElem?_toArray, List.getElem?_cons_succ, List.getElem?_cons_zero]; exact rfl) (by kernel_rfl) (by kernel_rfl) (by kernel_rfl) (fun _ _ _ h => h) (Or.inl ⟨by rfl, ?y24x56⟩) hHeld ?r24x56
    case y24x56 => (intro w hSw; refine exec_load_row 52 ?_ ?_ _ ?_ 52 _ _ _ (hSw.2.1) undKn rfl infoKn; rotate_left 1; exact rfl; exact rfl)
    try simp only [Act.put, List.setIfInBounds_toArray, List.set_cons_zero, List.set_cons_succ]
    refine' wpAnyH_take (i := 25) (v := _) (by simp only [List.getElem?_toArray, List.getElem?_cons_succ, List.getElem?_cons_zero]; exact rfl) (by kernel_rfl) (by kernel_rfl) (by kernel_rfl) (fun _ _ _ h => h) (Or.inl ⟨by rfl, ?y25x57⟩) hHeld ?r25x57
    case y25x57 => (intro w hSw; (try dsimp only at hSw); go_simp; try with_reducible rfl)
    try simp only [Act.put, List.setIfInBounds_toArray, List.set_cons_zero, List.set_cons_succ]
    refine' wpAnyH_take (i := 27) (v := _) (by simp only [List.getElem?_toArray, List.getElem?_cons_succ, List.getElem?_cons_zero]; exact rfl) (by kernel_rfl) (by kernel_rfl) (by kernel_rfl) (fun _ _ _ h => h) (Or.inl ⟨by rfl, ?y27x58⟩) hHeld ?r27x58
    case y27x58 => (intro w hSw; (try dsimp only at hSw); go_simp; try with_reducible rfl)
    try simp only [Act.put, List.setIfInBounds_toArray, List.set_cons_zero, List.set_cons_succ]
    refine' wpAnyH_take (i := 30) (v := _) (by simp only [List.getElem?_toArray, List.getElem?_cons_succ, List.getElem?_cons_zero]; exact rfl) (by kernel_rfl) (by kernel_rfl) (by kernel_rfl) (fun _ _ _ h => h) (Or.inl ⟨by rfl, ?y30x59⟩) hHeld ?r30x59
    case y30x59 => (intro w hSw; refine exec_load_row 50 ?_ ?_ _ ?_ 50 _ _ _ (hSw.2.2.2.2.1) undSp rfl infoSp; rotate_left 1; exact rfl; exact rfl)
    try simp only [Act.put, List.setIfInBounds_toArray, List.set_cons_zero, List.set_cons_succ]
    refine wpAnyH_ready (rs := [26]) (by kernel_rfl) (by simp) ?_
    refine AllReadyH.cons (by simp only [List.getElem?_toArray, List.getElem?_cons_succ, List.getElem?_cons_zero]; exact rfl) (fun K hK => ?_) AllReadyH.nil
    go_simp
    refine (CU.out v _).mono ?_
    rintro e w' ⟨rfl, hb⟩
    refine hK.out _ _ (stepG hHeld hb) (fun hHeld => ?_)
    clear hK K hb
    try simp only [Act.put, List.setIfInBounds_toArray, List.set_cons_zero, List.set_cons_succ]
    refine wpAnyH_ready (rs := [28]) (by kernel_rfl) (by simp) ?_
    refine AllReadyH.cons (by simp only [List.getElem?_toArray, List.getElem?_cons_succ, List.getElem?_cons_zero]; exact rfl) (fun K hK => ?_) AllReadyH.nil
    go_simp
    refine (CU.out y _).mono ?_
    rintro e w' ⟨rfl, hb⟩
    refine hK.out _ _ (stepG hHeld hb) (fun hHeld => ?_)
    clear hK K hb
    try simp only [Act.put, List.setIfInBounds_toArray, List.set_cons_zero, List.set_cons_succ]
    refine wpAnyH_ready (rs := [29]) (by kernel_rfl) (by simp) ?_
    refine AllReadyH.cons (by simp only [List.getElem?_toArray, List.getElem?_cons_succ, List.getElem?_cons_zero]; exact rfl) (fun K hK => ?_) AllReadyH.nil
    go_simp
    refine (C5.out _ hHeld.2.2.2.2.2.2.2).mono ?_
    rintro e w' ⟨rfl, hb⟩
    refine hK.out _ _ (stepG hHeld hb) (fun hHeld => ?_)
    clear hK K hb
    try simp only [Act.put, List.setIfInBounds_toArray, List.set_cons_zero, List.set_cons_succ]
    refine wpAnyH_ready (rs := [31]) (by kernel_rfl) (by simp) ?_
    refine AllReadyH.cons (by simp only [List.getElem?_toArray, List.getElem?_cons_succ, List.getElem?_cons_zero]; exact rfl) (fun K hK => ?_) AllReadyH.nil
    go_simp
    refine (CW2.out _ hHeld.2.2.2.2.2.2.2).mono ?_
    rintro e w' ⟨rfl, hb⟩
    refine hK.out _ _ (stepG hHeld hb) (fun hHeld => ?_)
    clear hK K hb
    try simp only [Act.put, List.setIfInBounds_toArray, List.set_cons_zero, List.set_cons_succ]
    refine' wpAnyH_take (i := 32) (v := _) (by simp only [List.getElem?_toArray, List.getElem?_cons_succ, List.getElem?_cons_zero]; exact rfl) (by kernel_rfl) (by kernel_rfl) (by kernel_rfl) (fun _ _ _ h => h) (Or.inl ⟨by rfl, ?y32x60⟩) hHeld ?r32x60
    case y32x60 => (intro w hSw; (try dsimp only at hSw); go_simp; try with_reducible rfl)
    try simp only [Act.put, List.setIfInBounds_toArray, List.set_cons_zero, List.set_cons_succ]
    refine' wpAnyH_take (i := 33) (v := _) (by simp only [List.getElem?_toArray, List.getElem?_cons_succ, List.getElem?_cons_zero]; exact rfl) (by kernel_rfl) (by kernel_rfl) (by kernel_rfl) (fun _ _ _ h => h) (Or.inl ⟨by rfl, ?y33x61⟩) hHeld ?r33x61
    case y33x61 => (intro w hSw; (try dsimp only at hSw); go_simp; try with_reducible rfl)
    try simp only [Act.put, List.setIfInBounds_toArray, List.set_cons_zero, List.set_cons_succ]
    refine wpAnyH_done (by kernel_rfl) ?_ _
    refine NoPanic.normal ?_
    obtain ⟨qL, qK, qF, qT, qS, qM, qH, qB⟩ := hHeld
    have Lh22 := Lib.hid qL
    have Kh22 := Lib.hid qK
    have Fh22 := Lib.hid qF
    have Th22 := Lib.hid qT
    have Sh22 := Lib.hid qS
    have Mh22 := Lib.hid qM
    have Hh22 := Lib.hid qH
    have HB22 := Lib.hid qB
    clear qB qL qK qF qT qS qM qH Lh21 Kh21 Fh21 Th21 Sh21 Mh21 Hh21 HB21
    clear q6
    go_wp2_with fail
    go_ret
    exact ⟨rfl, HB22.out⟩
end Go.Proofs.Ytkoobkcmmfdlhaa
