/- bournelaw19.GateMoves returns true. -/
import Derived.Test.YtkoobkcmmfdlhaaUSmall
namespace Go.Proofs.Ytkoobkcmmfdlhaa
open Go.RowKit
theorem undGt : Try.prog.underlying 28 = some (.struct (Try.prog.fieldsOf 28)) := by kernel_rfl
theorem infoGt : (Try.prog.info? 28).map (·.size) = some 4 := by kernel_rfl
/-- where one move leads -/
def mv (s t x : Int) : Int := x + max (-s) (min (t - x) s)
theorem mv_in {s t x P : Int} (h1 : 0 ≤ s) (h3 : 0 ≤ x ∧ x ≤ P) (h4 : 0 ≤ t ∧ t ≤ P) : 0 ≤ mv s t x ∧ mv s t x ≤ P := by unfold mv; omega
theorem mv_near {s t x : Int} (h1 : 0 ≤ s) : max (t - mv s t x) (mv s t x - t) = max (t - x) (x - t) - min (max (t - x) (x - t)) s := by unfold mv; omega
theorem move_mv {l : LinkV} {p t : Int} {o : Bool} (h1 : 0 ≤ l.speed) (h2 : l.speed ≤ l.positions) (h3 : l.positions ≤ 64) (h4 : 0 ≤ p ∧ p ≤ l.positions) (h5 : 0 ≤ t ∧ t ≤ l.positions) : moveN l ⟨p, t, false, o⟩ = ⟨mv l.speed t p, t, false, o⟩ := by
  have h := move_in (l := l) (g := ⟨p, t, false, o⟩) h1 h2 h3 h4 h5
  have e : moveN l ⟨p, t, false, o⟩ = ⟨moveP l ⟨p, t, false, o⟩, t, false, o⟩ := rfl
  rw [e, h]
  rfl
theorem clamp_in {n P : Int} (h : 0 ≤ P) : 0 ≤ clampN n 0 P ∧ clampN n 0 P ≤ P := by unfold clampN; split <;> (try split) <;> omega
def InvM (s p t far : Int) (i : Nat) (x : Int) : Prop := (s = 0 → x = p) ∧ (1 ≤ s → max (t - x) (x - t) ≤ max 0 (far - i - 1))
theorem inv_start {s p t : Int} (h : 0 ≤ s) : InvM s p t (max (t - p) (p - t)) 0 (mv s t p) := by
  have h1 := mv_near (s := s) (t := t) (x := p) h
  refine ⟨fun h0 => ?_, fun h0 => ?_⟩
  · subst h0; unfold mv; omega
  · rw [h1]; omega
theorem inv_next {s p t far x : Int} {i : Nat} (h : 0 ≤ s) (hi : InvM s p t far i x) : InvM s p t far (i + 1) (mv s t x) := by
  have h1 := mv_near (s := s) (t := t) (x := x) h
  refine ⟨fun h0 => ?_, fun h0 => ?_⟩
  · have := hi.1 h0
    subst h0
    unfold mv
    omega
  · have := hi.2 h0
    rw [h1]
    omega
theorem inv_end {s p t far x : Int} {i : Nat} (hi : (i : Int) = far) (h : InvM s p t far i x) : (s = 0 → x = p) ∧ (1 ≤ s → x = t) := ⟨h.1, fun h0 => by have := h.2 h0; omega⟩
theorem aim_is {l : LinkV} {p t0 n : Int} {s o : Bool} (h : 0 ≤ l.positions) (h0 : 0 ≤ t0 ∧ t0 ≤ l.positions) : ∃ t, aimN l ⟨p, t0, s, o⟩ n = ⟨p, t, s, o⟩ ∧ (0 ≤ t ∧ t ≤ l.positions) ∧ (0 < l.positions → t = clampN n 0 l.positions) := by
  by_cases hz : l.positions = 0
  · exact ⟨t0, by unfold aimN; rw [if_pos hz], h0, fun h => by omega⟩
  · exact ⟨clampN n 0 l.positions, by unfold aimN; rw [if_neg hz], clamp_in h, fun _ => rfl⟩
theorem stepM {w cur w' : World} {k0 k1 : Nat} {A0 A1 : Obj} {v0 v1 : Value} (h : cur.heap[k0]? = some A0 ∧ cur.heap[k1]? = some A1 ∧ cur.cell? ⟨k0, 7, none⟩ = some v0 ∧ cur.cell? ⟨k1, 1, none⟩ = some v1 ∧ Below w.heap.size w cur) (hb : Below cur.heap.size cur w') : w'.heap[k0]? = some A0 ∧ w'.heap[k1]? = some A1 ∧ w'.cell? ⟨k0, 7, none⟩ = some v0 ∧ w'.cell? ⟨k1, 1, none⟩ = some v1 ∧ Below w.heap.size w w' := by
  obtain ⟨a0, a1, c0, c1, d⟩ := h
  exact ⟨blk_below a0 hb (blk_lt a0), blk_below a1 hb (blk_lt a1), (hb.cell (p := ⟨_, 7, none⟩) (blk_lt a0)).trans c0, (hb.cell (p := ⟨_, 1, none⟩) (blk_lt a1)).trans c1, d.trans (hb.mono d.size)⟩
theorem stepMN {w cur : World} {k0 k1 : Nat} {A0 A1 : Obj} {v0 v1 : Value} (h : cur.heap[k0]? = some A0 ∧ cur.heap[k1]? = some A1 ∧ cur.cell? ⟨k0, 7, none⟩ = some v0 ∧ cur.cell? ⟨k1, 1, none⟩ = some v1 ∧ Below w.heap.size w cur) (n : Nat) : (cur.drewN n).heap[k0]? = some A0 ∧ (cur.drewN n).heap[k1]? = some A1 ∧ (cur.drewN n).cell? ⟨k0, 7, none⟩ = some v0 ∧ (cur.drewN n).cell? ⟨k1, 1, none⟩ = some v1 ∧ Below w.heap.size w (cur.drewN n) := by
  obtain ⟨a0, a1, c0, c1, d⟩ := h
  exact ⟨a0, a1, c0, c1, below_drewN d⟩
theorem stepMA {w cur : World} {k0 k1 : Nat} {A0 A1 : Obj} {v0 v1 : Value} {o : Obj} (h : cur.heap[k0]? = some A0 ∧ cur.heap[k1]? = some A1 ∧ cur.cell? ⟨k0, 7, none⟩ = some v0 ∧ cur.cell? ⟨k1, 1, none⟩ = some v1 ∧ Below w.heap.size w cur) : (cur.alloc o).heap[k0]? = some A0 ∧ (cur.alloc o).heap[k1]? = some A1 ∧ (cur.alloc o).cell? ⟨k0, 7, none⟩ = some v0 ∧ (cur.alloc o).cell? ⟨k1, 1, none⟩ = some v1 ∧ Below w.heap.size w (cur.alloc o) := stepM h ((Below.refl _ _).alloc (Nat.le_refl _) o)
theorem stepMS {w cur : World} {b j : Nat} {x : Value} {k0 k1 : Nat} {A0 A1 : Obj} {v0 v1 : Value} (h : cur.heap[k0]? = some A0 ∧ cur.heap[k1]? = some A1 ∧ cur.cell? ⟨k0, 7, none⟩ = some v0 ∧ cur.cell? ⟨k1, 1, none⟩ = some v1 ∧ Below w.heap.size w cur) (hle : w.heap.size ≤ b) (hn0 : k0 ≠ b) (hn1 : k1 ≠ b) : (cur.setCell ⟨b, j, none⟩ x).heap[k0]? = some A0 ∧ (cur.setCell ⟨b, j, none⟩ x).heap[k1]? = some A1 ∧ (cur.setCell ⟨b, j, none⟩ x).cell? ⟨k0, 7, none⟩ = some v0 ∧ (cur.setCell ⟨b, j, none⟩ x).cell? ⟨k1, 1, none⟩ = some v1 ∧ Below w.heap.size w (cur.setCell ⟨b, j, none⟩ x) := by
  obtain ⟨a0, a1, c0, c1, d⟩ := h
  have e0 : (cur.setCell ⟨b, j, none⟩ x).heap[k0]? = cur.heap[k0]? := heap_setCell_other _ _ _ _ hn0
  have e1 : (cur.setCell ⟨b, j, none⟩ x).heap[k1]? = cur.heap[k1]? := heap_setCell_other _ _ _ _ hn1
  exact ⟨e0.trans a0, e1.trans a1, (by rw [← c0]; unfold World.cell?; rw [e0]), (by rw [← c1]; unfold World.cell?; rw [e1]), d.setCell hle _⟩
theorem stepMU {w cur : World} {k0 k1 : Nat} {A0 A1 : Obj} {v0 v1 : Value} {n : Nat} (h : (cur.drewN n).heap[k0]? = some A0 ∧ (cur.drewN n).heap[k1]? = some A1 ∧ (cur.drewN n).cell? ⟨k0, 7, none⟩ = some v0 ∧ (cur.drewN n).cell? ⟨k1, 1, none⟩ = some v1 ∧ Below w.heap.size w (cur.drewN n)) : cur.heap[k0]? = some A0 ∧ cur.heap[k1]? = some A1 ∧ cur.cell? ⟨k0, 7, none⟩ = some v0 ∧ cur.cell? ⟨k1, 1, none⟩ = some v1 ∧ Below w.heap.size w cur := by
  obtain ⟨a0, a1, c0, c1, d⟩ := h
  exact ⟨a0, a1, c0, c1, ⟨d.os, d.tape, d.output, d.size, d.block⟩⟩
theorem stepQ {w cur w' : World} {k0 k1 k2 k3 : Nat} {A0 A1 A2 A3 : Obj} {v0 v1 v2 v3 v4 v5 v6 v7 : Value} (h : cur.heap[k0]? = some A0 ∧ cur.heap[k1]? = some A1 ∧ cur.heap[k2]? = some A2 ∧ cur.heap[k3]? = some A3 ∧ cur.cell? ⟨k2, 2, none⟩ = some v0 ∧ cur.cell? ⟨k3, 0, none⟩ = some v1 ∧ cur.cell? ⟨k3, 1, none⟩ = some v2 ∧ cur.cell? ⟨k3, 2, none⟩ = some v3 ∧ cur.cell? ⟨k3, 3, none⟩ = some v4 ∧ cur.cell? ⟨k1, 0, none⟩ = some v5 ∧ cur.cell? ⟨k1, 1, none⟩ = some v6 ∧ cur.cell? ⟨k1, 3, none⟩ = some v7 ∧ Below w.heap.size w cur) (hb : Below cur.heap.size cur w') : w'.heap[k0]? = some A0 ∧ w'.heap[k1]? = some A1 ∧ w'.heap[k2]? = some A2 ∧ w'.heap[k3]? = some A3 ∧ w'.cell? ⟨k2, 2, none⟩ = some v0 ∧ w'.cell? ⟨k3, 0, none⟩ = some v1 ∧ w'.cell? ⟨k3, 1, none⟩ = some v2 ∧ w'.cell? ⟨k3, 2, none⟩ = some v3 ∧ w'.cell? ⟨k3, 3, none⟩ = some v4 ∧ w'.cell? ⟨k1, 0, none⟩ = some v5 ∧ w'.cell? ⟨k1, 1, none⟩ = some v6 ∧ w'.cell? ⟨k1, 3, none⟩ = some v7 ∧ Below w.heap.size w w' := by
  obtain ⟨a0, a1, a2, a3, c0, c1, c2, c3, c4, c5, c6, c7, d⟩ := h
  exact ⟨blk_below a0 hb (blk_lt a0), blk_below a1 hb (blk_lt a1), blk_below a2 hb (blk_lt a2), blk_below a3 hb (blk_lt a3), (hb.cell (p := ⟨_, 2, none⟩) (blk_lt a2)).trans c0, (hb.cell (p := ⟨_, 0, none⟩) (blk_lt a3)).trans c1, (hb.cell (p := ⟨_, 1, none⟩) (blk_lt a3)).trans c2, (hb.cell (p := ⟨_, 2, none⟩) (blk_lt a3)).trans c3, (hb.cell (p := ⟨_, 3, none⟩) (blk_lt a3)).trans c4, (hb.cell (p := ⟨_, 0, none⟩) (blk_lt a1)).trans c5, (hb.cell (p := ⟨_, 1, none⟩) (blk_lt a1)).trans c6, (hb.cell (p := ⟨_, 3, none⟩) (blk_lt a1)).trans c7, d.trans (hb.mono d.size)⟩
theorem stepQN {w cur : World} {k0 k1 k2 k3 : Nat} {A0 A1 A2 A3 : Obj} {v0 v1 v2 v3 v4 v5 v6 v7 : Value} (h : cur.heap[k0]? = some A0 ∧ cur.heap[k1]? = some A1 ∧ cur.heap[k2]? = some A2 ∧ cur.heap[k3]? = some A3 ∧ cur.cell? ⟨k2, 2, none⟩ = some v0 ∧ cur.cell? ⟨k3, 0, none⟩ = some v1 ∧ cur.cell? ⟨k3, 1, none⟩ = some v2 ∧ cur.cell? ⟨k3, 2, none⟩ = some v3 ∧ cur.cell? ⟨k3, 3, none⟩ = some v4 ∧ cur.cell? ⟨k1, 0, none⟩ = some v5 ∧ cur.cell? ⟨k1, 1, none⟩ = some v6 ∧ cur.cell? ⟨k1, 3, none⟩ = some v7 ∧ Below w.heap.size w cur) (n : Nat) : (cur.drewN n).heap[k0]? = some A0 ∧ (cur.drewN n).heap[k1]? = some A1 ∧ (cur.drewN n).heap[k2]? = some A2 ∧ (cur.drewN n).heap[k3]? = some A3 ∧ (cur.drewN n).cell? ⟨k2, 2, none⟩ = some v0 ∧ (cur.drewN n).cell? ⟨k3, 0, none⟩ = some v1 ∧ (cur.drewN n).cell? ⟨k3, 1, none⟩ = some v2 ∧ (cur.drewN n).cell? ⟨k3, 2, none⟩ = some v3 ∧ (cur.drewN n).cell? ⟨k3, 3, none⟩ = some v4 ∧ (cur.drewN n).cell? ⟨k1, 0, none⟩ = some v5 ∧ (cur.drewN n).cell? ⟨k1, 1, none⟩ = some v6 ∧ (cur.drewN n).cell? ⟨k1, 3, none⟩ = some v7 ∧ Below w.heap.size w (cur.drewN n) := by
  obtain ⟨a0, a1, a2, a3, c0, c1, c2, c3, c4, c5, c6, c7, d⟩ := h
  exact ⟨a0, a1, a2, a3, c0, c1, c2, c3, c4, c5, c6, c7, below_drewN d⟩
theorem stepQA {w cur : World} {k0 k1 k2 k3 : Nat} {A0 A1 A2 A3 : Obj} {v0 v1 v2 v3 v4 v5 v6 v7 : Value} {o : Obj} (h : cur.heap[k0]? = some A0 ∧ cur.heap[k1]? = some A1 ∧ cur.heap[k2]? = some A2 ∧ cur.heap[k3]? = some A3 ∧ cur.cell? ⟨k2, 2, none⟩ = some v0 ∧ cur.cell? ⟨k3, 0, none⟩ = some v1 ∧ cur.cell? ⟨k3, 1, none⟩ = some v2 ∧ cur.cell? ⟨k3, 2, none⟩ = some v3 ∧ cur.cell? ⟨k3, 3, none⟩ = some v4 ∧ cur.cell? ⟨k1, 0, none⟩ = some v5 ∧ cur.cell? ⟨k1, 1, none⟩ = some v6 ∧ cur.cell? ⟨k1, 3, none⟩ = some v7 ∧ Below w.heap.size w cur) : (cur.alloc o).heap[k0]? = some A0 ∧ (cur.alloc o).heap[k1]? = some A1 ∧ (cur.alloc o).heap[k2]? = some A2 ∧ (cur.alloc o).heap[k3]? = some A3 ∧ (cur.alloc o).cell? ⟨k2, 2, none⟩ = some v0 ∧ (cur.alloc o).cell? ⟨k3, 0, none⟩ = some v1 ∧ (cur.alloc o).cell? ⟨k3, 1, none⟩ = some v2 ∧ (cur.alloc o).cell? ⟨k3, 2, none⟩ = some v3 ∧ (cur.alloc o).cell? ⟨k3, 3, none⟩ = some v4 ∧ (cur.alloc o).cell? ⟨k1, 0, none⟩ = some v5 ∧ (cur.alloc o).cell? ⟨k1, 1, none⟩ = some v6 ∧ (cur.alloc o).cell? ⟨k1, 3, none⟩ = some v7 ∧ Below w.heap.size w (cur.alloc o) := stepQ h ((Below.refl _ _).alloc (Nat.le_refl _) o)
theorem stepQS {w cur : World} {b j : Nat} {x : Value} {k0 k1 k2 k3 : Nat} {A0 A1 A2 A3 : Obj} {v0 v1 v2 v3 v4 v5 v6 v7 : Value} (h : cur.heap[k0]? = some A0 ∧ cur.heap[k1]? = some A1 ∧ cur.heap[k2]? = some A2 ∧ cur.heap[k3]? = some A3 ∧ cur.cell? ⟨k2, 2, none⟩ = some v0 ∧ cur.cell? ⟨k3, 0, none⟩ = some v1 ∧ cur.cell? ⟨k3, 1, none⟩ = some v2 ∧ cur.cell? ⟨k3, 2, none⟩ = some v3 ∧ cur.cell? ⟨k3, 3, none⟩ = some v4 ∧ cur.cell? ⟨k1, 0, none⟩ = some v5 ∧ cur.cell? ⟨k1, 1, none⟩ = some v6 ∧ cur.cell? ⟨k1, 3, none⟩ = some v7 ∧ Below w.heap.size w cur) (hle : w.heap.size ≤ b) (hn0 : k0 ≠ b) (hn1 : k1 ≠ b) (hn2 : k2 ≠ b) (hn3 : k3 ≠ b) : (cur.setCell ⟨b, j, none⟩ x).heap[k0]? = some A0 ∧ (cur.setCell ⟨b, j, none⟩ x).heap[k1]? = some A1 ∧ (cur.setCell ⟨b, j, none⟩ x).heap[k2]? = some A2 ∧ (cur.setCell ⟨b, j, none⟩ x).heap[k3]? = some A3 ∧ (cur.setCell ⟨b, j, none⟩ x).cell? ⟨k2, 2, none⟩ = some v0 ∧ (cur.setCell ⟨b, j, none⟩ x).cell? ⟨k3, 0, none⟩ = some v1 ∧ (cur.setCell ⟨b, j, none⟩ x).cell? ⟨k3, 1, none⟩ = some v2 ∧ (cur.setCell ⟨b, j, none⟩ x).cell? ⟨k3, 2, none⟩ = some v3 ∧ (cur.setCell ⟨b, j, none⟩ x).cell? ⟨k3, 3, none⟩ = some v4 ∧ (cur.setCell ⟨b, j, none⟩ x).cell? ⟨k1, 0, none⟩ = some v5 ∧ (cur.setCell ⟨b, j, none⟩ x).cell? ⟨k1, 1, none⟩ = some v6 ∧ (cur.setCell ⟨b, j, none⟩ x).cell? ⟨k1, 3, none⟩ = some v7 ∧ Below w.heap.size w (cur.setCell ⟨b, j, none⟩ x) := by
  obtain ⟨a0, a1, a2, a3, c0, c1, c2, c3, c4, c5, c6, c7, d⟩ := h
  have e0 : (cur.setCell ⟨b, j, none⟩ x).heap[k0]? = cur.heap[k0]? := heap_setCell_other _ _ _ _ hn0
  have e1 : (cur.setCell ⟨b, j, none⟩ x).heap[k1]? = cur.heap[k1]? := heap_setCell_other _ _ _ _ hn1
  have e2 : (cur.setCell ⟨b, j, none⟩ x).heap[k2]? = cur.heap[k2]? := heap_setCell_other _ _ _ _ hn2
  have e3 : (cur.setCell ⟨b, j, none⟩ x).heap[k3]? = cur.heap[k3]? := heap_setCell_other _ _ _ _ hn3
  exact ⟨e0.trans a0, e1.trans a1, e2.trans a2, e3.trans a3, (by rw [← c0]; unfold World.cell?; rw [e2]), (by rw [← c1]; unfold World.cell?; rw [e3]), (by rw [← c2]; unfold World.cell?; rw [e3]), (by rw [← c3]; unfold World.cell?; rw [e3]), (by rw [← c4]; unfold World.cell?; rw [e3]), (by rw [← c5]; unfold World.cell?; rw [e1]), (by rw [← c6]; unfold World.cell?; rw [e1]), (by rw [← c7]; unfold World.cell?; rw [e1]), d.setCell hle _⟩
theorem stepQU {w cur : World} {k0 k1 k2 k3 : Nat} {A0 A1 A2 A3 : Obj} {v0 v1 v2 v3 v4 v5 v6 v7 : Value} {n : Nat} (h : (cur.drewN n).heap[k0]? = some A0 ∧ (cur.drewN n).heap[k1]? = some A1 ∧ (cur.drewN n).heap[k2]? = some A2 ∧ (cur.drewN n).heap[k3]? = some A3 ∧ (cur.drewN n).cell? ⟨k2, 2, none⟩ = some v0 ∧ (cur.drewN n).cell? ⟨k3, 0, none⟩ = some v1 ∧ (cur.drewN n).cell? ⟨k3, 1, none⟩ = some v2 ∧ (cur.drewN n).cell? ⟨k3, 2, none⟩ = some v3 ∧ (cur.drewN n).cell? ⟨k3, 3, none⟩ = some v4 ∧ (cur.drewN n).cell? ⟨k1, 0, none⟩ = some v5 ∧ (cur.drewN n).cell? ⟨k1, 1, none⟩ = some v6 ∧ (cur.drewN n).cell? ⟨k1, 3, none⟩ = some v7 ∧ Below w.heap.size w (cur.drewN n)) : cur.heap[k0]? = some A0 ∧ cur.heap[k1]? = some A1 ∧ cur.heap[k2]? = some A2 ∧ cur.heap[k3]? = some A3 ∧ cur.cell? ⟨k2, 2, none⟩ = some v0 ∧ cur.cell? ⟨k3, 0, none⟩ = some v1 ∧ cur.cell? ⟨k3, 1, none⟩ = some v2 ∧ cur.cell? ⟨k3, 2, none⟩ = some v3 ∧ cur.cell? ⟨k3, 3, none⟩ = some v4 ∧ cur.cell? ⟨k1, 0, none⟩ = some v5 ∧ cur.cell? ⟨k1, 1, none⟩ = some v6 ∧ cur.cell? ⟨k1, 3, none⟩ = some v7 ∧ Below w.heap.size w cur := by
  obtain ⟨a0, a1, a2, a3, c0, c1, c2, c3, c4, c5, c6, c7, d⟩ := h
  exact ⟨a0, a1, a2, a3, c0, c1, c2, c3, c4, c5, c6, c7, ⟨d.os, d.tape, d.output, d.size, d.block⟩⟩
theorem clamp_b (n lo hi : Int) (w : World) : Calls Try.prog 11 #[.int .i64 n, .int .i64 lo, .int .i64 hi] w fun e w' => e = .returned (.int .i64 (clampN n lo hi)) ∧ Below w.heap.size w w' := (clamp_any n lo hi w).mono fun _ _ ⟨h, hm⟩ => ⟨h, by rw [hm]; exact Below.refl _ _⟩
def MovesC (l : LinkV) (g : GateV) : Prop := 0 ≤ l.positions ∧ l.positions ≤ 64 ∧ 0 ≤ l.speed ∧ l.speed ≤ l.positions ∧ ValidG l g ∧ fewB l = true
set_option maxRecDepth 100000 in
set_option maxHeartbeats 8000000 in
theorem moves_core (l : LinkV) (v1 v2 v3 : Value) (p t0 : Int) (s o : Bool) (n : Int) (w : World) (hn : I64 n) (hsp : I64 l.speed) (hp : I64 p) (ht : I64 t0) (h1 : LArg RPoint 2 v1 l.rate w) (h2 : LArg RPoint 2 v2 l.band.lo w) (h3 : LArg RPoint 2 v3 l.band.hi w) :
    Calls Try.prog 3 #[.agg #[.string l.name, .int .i64 l.kind, .int .i64 l.src, .int .i64 l.dst, v1, v2, v3, .int .i64 l.positions, .int .i64 l.speed, .int .i64 l.leak, .int .i64 l.crest, .int .i64 l.num, .int .i64 l.den, .int .i64 l.prime, .int .i64 l.brk, .int .i64 l.backNum, .int .i64 l.backDen, .int .i64 l.delay], .agg #[.int .i64 p, .int .i64 t0, .bool s, .bool o], .int .i64 n] w fun e w' => e = .returned (.bool true) ∧ Below w.heap.size w w' := by
  obtain ⟨r0, r1, rb⟩ := two_rowsV (w := w) (A := .cells #[.string l.name, .int .i64 l.kind, .int .i64 l.src, .int .i64 l.dst, v1, v2, v3, .int .i64 l.positions, .int .i64 l.speed, .int .i64 l.leak, .int .i64 l.crest, .int .i64 l.num, .int .i64 l.den, .int .i64 l.prime, .int .i64 l.brk, .int .i64 l.backNum, .int .i64 l.backDen, .int .i64 l.delay] 26) (B := .cells #[.int .i64 p, .int .i64 t0, .bool s, .bool o] 28)
  have HW := Lib.hid (rfl : (w.alloc (.cells #[.string l.name, .int .i64 l.kind, .int .i64 l.src, .int .i64 l.dst, v1, v2, v3, .int .i64 l.positions, .int .i64 l.speed, .int .i64 l.leak, .int .i64 l.crest, .int .i64 l.num, .int .i64 l.den, .int .i64 l.prime, .int .i64 l.brk, .int .i64 l.backNum, .int .i64 l.backDen, .int .i64 l.delay] 26)).alloc (.cells #[.int .i64 p, .int .i64 t0, .bool s, .bool o] 28) = (w.alloc (.cells #[.string l.name, .int .i64 l.kind, .int .i64 l.src, .int .i64 l.dst, v1, v2, v3, .int .i64 l.positions, .int .i64 l.speed, .int .i64 l.leak, .int .i64 l.crest, .int .i64 l.num, .int .i64 l.den, .int .i64 l.prime, .int .i64 l.brk, .int .i64 l.backNum, .int .i64 l.backDen, .int .i64 l.delay] 26)).alloc (.cells #[.int .i64 p, .int .i64 t0, .bool s, .bool o] 28))
  have HL1 := Lib.hid h1
  have HL2 := Lib.hid h2
  have HL3 := Lib.hid h3
  have HN := Lib.hid hn
  have HSP := Lib.hid hsp
  have HPP := Lib.hid hp
  have HT0 := Lib.hid ht
  have HC : MovesC l ⟨p, t0, s, o⟩ ∨ ¬ MovesC l ⟨p, t0, s, o⟩ := Classical.em _
  clear h1 h2 h3 hn hsp hp ht HW
  go_enter Try.func3, Try.ntmps3
  go_upto_region 1 with fail
  generalize (w.alloc (.cells #[.string l.name, .int .i64 l.kind, .int .i64 l.src, .int .i64 l.dst, v1, v2, v3, .int .i64 l.positions, .int .i64 l.speed, .int .i64 l.leak, .int .i64 l.crest, .int .i64 l.num, .int .i64 l.den, .int .i64 l.prime, .int .i64 l.brk, .int .i64 l.backNum, .int .i64 l.backDen, .int .i64 l.delay] 26)).alloc (.cells #[.int .i64 p, .int .i64 t0, .bool s, .bool o] 28) = w0 at *
  have Lh0 := Lib.hid r0
  have Gh0 := Lib.hid r1
  have HB0 := Lib.hid rb
  clear r0 r1 rb
  go_wp2_with fail
  refine (small_any _).mono ?_
  rintro e w1 ⟨rfl, hb⟩
  have HB1 := Lib.hid (HB0.out.trans (hb.mono HB0.out.size))
  have Lh1 := Lib.hid (blk_below Lh0.out hb (blk_lt Lh0.out))
  have Gh1 := Lib.hid (blk_below Gh0.out hb (blk_lt Gh0.out))
  clear HB0 Lh0 Gh0
  clear hb
  have c7 := rowN Lh1.out 7 (.int .i64 l.positions) rfl
  have c8 := rowN Lh1.out 8 (.int .i64 l.speed) rfl
  rcases HC with HC | HC
  rotate_left 1
  · by_cases k1 : l.positions < 0
    · clear HC
      go_wp2_with fail
      go_ret
      exact ⟨rfl, HB1.out⟩
    by_cases k2 : 64 < l.positions
    · clear HC
      go_wp2_with fail
      go_ret
      exact ⟨rfl, HB1.out⟩
    by_cases k3 : l.speed < 0
    · clear HC
      go_wp2_with fail
      go_ret
      exact ⟨rfl, HB1.out⟩
    by_cases k4 : l.positions < l.speed
    · clear HC
      go_wp2_with fail
      go_ret
      exact ⟨rfl, HB1.out⟩
    have HV := Lib.hid (valid_any l v1 v2 v3 ⟨p, t0, s, o⟩)
    by_cases k5 : ValidG l ⟨p, t0, s, o⟩
    · have k6 : fewB l = false := by
        cases hf : fewB l with
        | false => rfl
        | true => exact absurd (⟨by omega, by omega, by omega, by omega, k5, hf⟩ : MovesC l ⟨p, t0, s, o⟩) HC
      have HE5 := Lib.hid (decide_eq_true k5)
      have HE6 := Lib.hid k6
      clear HC k5 k6
      go_wp2_with (first | (refine wpList_load_rowW (by first | rfl | (go_simp; done) | go_simp) 26 _ rfl _ rfl 26 _ _ _ Lh1.out undLk rfl infoLk ?_) | (refine wpList_load_rowW (by first | rfl | (go_simp; done) | go_simp) 28 _ rfl _ rfl 28 _ _ _ Gh1.out undGt rfl infoGt ?_))
      refine (HV.out _).mono ?_
      rintro e w2 ⟨rfl, hb⟩
      rw [HE5.out]
      have HB2 := Lib.hid (HB1.out.trans (hb.mono HB1.out.size))
      have Lh2 := Lib.hid (blk_below Lh1.out hb (blk_lt Lh1.out))
      clear hb
      go_wp2_with (refine wpList_load_rowW (by first | rfl | (go_simp; done) | go_simp) 26 _ rfl _ rfl 26 _ _ _ Lh2.out undLk rfl infoLk ?_)
      refine (few_any l v1 v2 v3 _ (HL1.out.below stays_Point HB2.out) (HL2.out.below stays_Point HB2.out) (HL3.out.below stays_Point HB2.out)).mono ?_
      rintro e w3 ⟨rfl, hb⟩
      rw [HE6.out]
      go_wp2_with fail
      go_ret
      exact ⟨rfl, HB2.out.trans (hb.mono HB2.out.size)⟩
    · have HE5 := Lib.hid (decide_eq_false k5)
      clear HC k5
      go_wp2_with (first | (refine wpList_load_rowW (by first | rfl | (go_simp; done) | go_simp) 26 _ rfl _ rfl 26 _ _ _ Lh1.out undLk rfl infoLk ?_) | (refine wpList_load_rowW (by first | rfl | (go_simp; done) | go_simp) 28 _ rfl _ rfl 28 _ _ _ Gh1.out undGt rfl infoGt ?_))
      refine (HV.out _).mono ?_
      rintro e w2 ⟨rfl, hb⟩
      rw [HE5.out]
      go_wp2_with fail
      go_ret
      exact ⟨rfl, HB1.out.trans (hb.mono HB1.out.size)⟩
  · skip
    obtain ⟨m1, m2, m3, m4, m5, m6⟩ := HC
    have k1 : ¬ l.positions < 0 := by omega
    have k2 : ¬ 64 < l.positions := by omega
    have k3 : ¬ l.speed < 0 := by omega
    have k4 : ¬ l.positions < l.speed := by omega
    have HV : Hid (∀ p t : Int, ∀ s o : Bool, 0 ≤ p ∧ p ≤ l.positions → 0 ≤ t ∧ t ≤ l.positions → ∀ W, Calls Try.prog 8 #[.agg #[.string l.name, .int .i64 l.kind, .int .i64 l.src, .int .i64 l.dst, v1, v2, v3, .int .i64 l.positions, .int .i64 l.speed, .int .i64 l.leak, .int .i64 l.crest, .int .i64 l.num, .int .i64 l.den, .int .i64 l.prime, .int .i64 l.brk, .int .i64 l.backNum, .int .i64 l.backDen, .int .i64 l.delay], .agg #[.int .i64 p, .int .i64 t, .bool s, .bool o]] W (RetB true W)) := Lib.hid fun p t s o h1 h2 W => by
      have h := valid_any l v1 v2 v3 ⟨p, t, s, o⟩ W
      have hd : decide (ValidG l ⟨p, t, s, o⟩) = true := decide_eq_true ⟨h1.1, h1.2, h2.1, h2.2⟩
      rw [hd] at h
      exact h
    have HFW : Hid (∀ W, Below w.heap.size w W → Calls Try.prog 9 #[.agg #[.string l.name, .int .i64 l.kind, .int .i64 l.src, .int .i64 l.dst, v1, v2, v3, .int .i64 l.positions, .int .i64 l.speed, .int .i64 l.leak, .int .i64 l.crest, .int .i64 l.num, .int .i64 l.den, .int .i64 l.prime, .int .i64 l.brk, .int .i64 l.backNum, .int .i64 l.backDen, .int .i64 l.delay]] W (RetB true W)) := Lib.hid fun W hb => by
      have h := few_any l v1 v2 v3 W (HL1.out.below stays_Point hb) (HL2.out.below stays_Point hb) (HL3.out.below stays_Point hb)
      rw [m6] at h
      exact h
    have HPI : Hid (0 ≤ p ∧ p ≤ l.positions) := Lib.hid ⟨m5.1, m5.2.1⟩
    have HTI : Hid (0 ≤ t0 ∧ t0 ≤ l.positions) := Lib.hid ⟨m5.2.2.1, m5.2.2.2⟩
    obtain ⟨t, hta, htb, htc⟩ := aim_is (l := l) (p := p) (t0 := t0) (s := s) (o := o) (n := n) m1 HTI.out
    have HTA := Lib.hid hta
    have HTB := Lib.hid htb
    have HTC := Lib.hid htc
    clear m5 m6 hta htb htc HL1 HL2 HL3
    go_wp2_with (first | (refine wpList_load_rowW (by first | rfl | (go_simp; done) | go_simp) 26 _ rfl _ rfl 26 _ _ _ Lh1.out undLk rfl infoLk ?_) | (refine wpList_load_rowW (by first | rfl | (go_simp; done) | go_simp) 28 _ rfl _ rfl 28 _ _ _ Gh1.out undGt rfl infoGt ?_))
    refine (HV.out _ _ _ _ HPI.out HTI.out _).mono ?_
    rintro e w2 ⟨rfl, hb⟩
    have HB2 := Lib.hid (HB1.out.trans (hb.mono HB1.out.size))
    have Lh2 := Lib.hid (blk_below Lh1.out hb (blk_lt Lh1.out))
    have Gh2 := Lib.hid (blk_below Gh1.out hb (blk_lt Gh1.out))
    clear HB1 Lh1 Gh1
    clear hb
    go_wp2_with (first | (refine wpList_load_rowW (by first | rfl | (go_simp; done) | go_simp) 26 _ rfl _ rfl 26 _ _ _ Lh2.out undLk rfl infoLk ?_) | (refine wpList_load_rowW (by first | rfl | (go_simp; done) | go_simp) 28 _ rfl _ rfl 28 _ _ _ Gh2.out undGt rfl infoGt ?_))
    refine (HFW.out _ HB2.out).mono ?_
    rintro e w3 ⟨rfl, hb⟩
    have HB3 := Lib.hid (HB2.out.trans (hb.mono HB2.out.size))
    have Lh3 := Lib.hid (blk_below Lh2.out hb (blk_lt Lh2.out))
    have Gh3 := Lib.hid (blk_below Gh2.out hb (blk_lt Gh2.out))
    clear HB2 Lh2 Gh2
    clear hb
    clear c7 c8
    have HAIM := Lib.hid (aim_any l v1 v2 v3 ⟨p, t0, s, o⟩ n)
    go_wp2_with (first | (refine wpList_load_rowW (by first | rfl | (go_simp; done) | go_simp) 26 _ rfl _ rfl 26 _ _ _ Lh3.out undLk rfl infoLk ?_) | (refine wpList_load_rowW (by first | rfl | (go_simp; done) | go_simp) 28 _ rfl _ rfl 28 _ _ _ Gh3.out undGt rfl infoGt ?_))
    refine ((fun W => by have h := HAIM.out W; rw [HTA.out] at h; exact h : ∀ W, Calls Try.prog 10 #[.agg #[.string l.name, .int .i64 l.kind, .int .i64 l.src, .int .i64 l.dst, v1, v2, v3, .int .i64 l.positions, .int .i64 l.speed, .int .i64 l.leak, .int .i64 l.crest, .int .i64 l.num, .int .i64 l.den, .int .i64 l.prime, .int .i64 l.brk, .int .i64 l.backNum, .int .i64 l.backDen, .int .i64 l.delay], .agg #[.int .i64 p, .int .i64 t0, .bool s, .bool o], .int .i64 n] W (RetG ⟨p, t, s, o⟩ W)) _).mono ?_
    rintro e w4 ⟨rfl, hb⟩
    have HB4 := Lib.hid (HB3.out.trans (hb.mono HB3.out.size))
    have Lh4 := Lib.hid (blk_below Lh3.out hb (blk_lt Lh3.out))
    have Gh4 := Lib.hid (blk_below Gh3.out hb (blk_lt Gh3.out))
    clear HB3 Lh3 Gh3
    clear hb
    go_upto_region 5 with (refine wpList_store_row rfl 28 _ _ rfl (w.heap.size + 1) #[.int .i64 p, .int .i64 t, .bool s, .bool o] rfl rfl 28 _ Gh4.out infoGt rfl (by simp [Value.oneCell']) ?_)
    have Lh5 : Hid ((w4.setRow (w.heap.size + 1) #[.int .i64 p, .int .i64 t, .bool s, .bool o]).heap[w.heap.size]? = some (.cells #[.string l.name, .int .i64 l.kind, .int .i64 l.src, .int .i64 l.dst, v1, v2, v3, .int .i64 l.positions, .int .i64 l.speed, .int .i64 l.leak, .int .i64 l.crest, .int .i64 l.num, .int .i64 l.den, .int .i64 l.prime, .int .i64 l.brk, .int .i64 l.backNum, .int .i64 l.backDen, .int .i64 l.delay] 26 (0, 0))) := Lib.hid ((setRow_other _ _ _ _ (by omega)).trans Lh4.out)
    have Gh5 : Hid ((w4.setRow (w.heap.size + 1) #[.int .i64 p, .int .i64 t, .bool s, .bool o]).heap[(w.heap.size + 1)]? = some (.cells #[.int .i64 p, .int .i64 t, .bool s, .bool o] 28 (0, 0))) := Lib.hid (setRow_heap _ _ _ _ _ _ Gh4.out)
    have HB5 : Hid (Below w.heap.size w (w4.setRow (w.heap.size + 1) #[.int .i64 p, .int .i64 t, .bool s, .bool o])) := Lib.hid (below_setRow HB4.out (by omega) _)
    clear HB4 Lh4 Gh4
    generalize (w4.setRow (w.heap.size + 1) #[.int .i64 p, .int .i64 t, .bool s, .bool o]) = w5 at *
    have hpos : 0 < l.positions ∨ ¬ 0 < l.positions := Classical.em _
    rcases hpos with hpos | hpos
    · have hcl : (t != clampN n 0 l.positions) = false := by rw [← HTC.out hpos]; simp
      refine wp_region_noPanic ?_
      refine wp_region_held_drew (S := fun w' => w'.heap[w.heap.size]? = some (.cells #[.string l.name, .int .i64 l.kind, .int .i64 l.src, .int .i64 l.dst, v1, v2, v3, .int .i64 l.positions, .int .i64 l.speed, .int .i64 l.leak, .int .i64 l.crest, .int .i64 l.num, .int .i64 l.den, .int .i64 l.prime, .int .i64 l.brk, .int .i64 l.backNum, .int .i64 l.backDen, .int .i64 l.delay] 26 (0, 0)) ∧ w'.heap[(w.heap.size + 1)]? = some (.cells #[.int .i64 p, .int .i64 t, .bool s, .bool o] 28 (0, 0)) ∧ w'.cell? ⟨w.heap.size, 7, none⟩ = some (.int .i64 l.positions) ∧ w'.cell? ⟨(w.heap.size + 1), 1, none⟩ = some (.int .i64 t) ∧ Below w.heap.size w w') (by kernel_rfl) (stepM ⟨Lh5.out, Gh5.out, rowN Lh5.out 7 _ rfl, rowN Gh5.out 1 _ rfl, HB5.out⟩ (Below.refl _ _).drew) (fun hHeld => ?_)
      refine' wpAnyH_take (i := 0) (v := _) (by simp only [List.getElem?_toArray, List.getElem?_cons_succ, List.getElem?_cons_zero]; exact rfl) (by kernel_rfl) (by kernel_rfl) (by kernel_rfl) (fun _ _ _ h => h) (Or.inl ⟨by rfl, ?y0x1⟩) hHeld ?r0x1
      case y0x1 => (intro w hSw; refine exec_load_row 26 ?_ ?_ _ ?_ 26 _ _ _ (hSw.1) undLk rfl infoLk; rotate_left 1; exact rfl; exact rfl)
      try simp only [Act.put, List.setIfInBounds_toArray, List.set_cons_zero, List.set_cons_succ]
      refine' wpAnyH_take (i := 1) (v := _) (by simp only [List.getElem?_toArray, List.getElem?_cons_succ, List.getElem?_cons_zero]; exact rfl) (by kernel_rfl) (by kernel_rfl) (by kernel_rfl) (fun _ _ _ h => h) (Or.inl ⟨by rfl, ?y1x2⟩) hHeld ?r1x2
      case y1x2 => (intro w hSw; refine exec_load_row 28 ?_ ?_ _ ?_ 28 _ _ _ (hSw.2.1) undGt rfl infoGt; rotate_left 1; exact rfl; exact rfl)
      try simp only [Act.put, List.setIfInBounds_toArray, List.set_cons_zero, List.set_cons_succ]
      refine wpAnyH_ready (rs := [2]) (by kernel_rfl) (by simp) ?_
      refine AllReadyH.cons (by simp only [List.getElem?_toArray, List.getElem?_cons_succ, List.getElem?_cons_zero]; exact rfl) (fun K hK => ?_) AllReadyH.nil
      go_simp
      refine (HV.out _ _ _ _ HPI.out HTB.out _).mono ?_
      rintro e w' ⟨rfl, hb⟩
      refine hK.out _ _ (stepM hHeld hb) (fun hHeld => ?_)
      clear hK K hb
      try simp only [Act.put, List.setIfInBounds_toArray, List.set_cons_zero, List.set_cons_succ]
      refine' wpAnyH_take (i := 3) (v := _) (by simp only [List.getElem?_toArray, List.getElem?_cons_succ, List.getElem?_cons_zero]; exact rfl) (by kernel_rfl) (by kernel_rfl) (by kernel_rfl) (fun _ _ _ h => h) (Or.inl ⟨by rfl, ?y3x3⟩) hHeld ?r3x3
      case y3x3 => (intro w hSw; (try dsimp only at hSw); go_simp; try with_reducible rfl)
      try simp only [Act.put, List.setIfInBounds_toArray, List.set_cons_zero, List.set_cons_succ]
      refine' wpAnyH_take (i := 4) (v := _) (by simp only [List.getElem?_toArray, List.getElem?_cons_succ, List.getElem?_cons_zero]; exact rfl) (by kernel_rfl) (by kernel_rfl) (by kernel_rfl) (fun _ _ _ h => h) (Or.inl ⟨by rfl, ?y4x4⟩) hHeld ?r4x4
      case y4x4 => (intro w hSw; (try dsimp only at hSw); go_simp; try with_reducible rfl)
      try simp only [Act.put, List.setIfInBounds_toArray, List.set_cons_zero, List.set_cons_succ]
      refine' wpAnyH_take (i := 5) (v := _) (by simp only [List.getElem?_toArray, List.getElem?_cons_succ, List.getElem?_cons_zero]; exact rfl) (by kernel_rfl) (by kernel_rfl) (by kernel_rfl) (fun _ _ _ h => h) (Or.inl ⟨by rfl, ?y5x5⟩) hHeld ?r5x5
      case y5x5 => (intro w hSw; (try dsimp only at hSw); go_simp; try with_reducible rfl)
      try simp only [Act.put, List.setIfInBounds_toArray, List.set_cons_zero, List.set_cons_succ]
      refine' wpAnyH_take (i := 6) (v := _) (by simp only [List.getElem?_toArray, List.getElem?_cons_succ, List.getElem?_cons_zero]; exact rfl) (by kernel_rfl) (by kernel_rfl) (by kernel_rfl) (fun _ _ _ h => h) (Or.inl ⟨by rfl, ?y6x6⟩) hHeld ?r6x6
      case y6x6 => (intro w hSw; (try dsimp only at hSw); go_simp; try with_reducible rfl)
      try simp only [Act.put, List.setIfInBounds_toArray, List.set_cons_zero, List.set_cons_succ]
      refine' wpAnyH_take (i := 7) (v := _) (by simp only [List.getElem?_toArray, List.getElem?_cons_succ, List.getElem?_cons_zero]; exact rfl) (by kernel_rfl) (by kernel_rfl) (by kernel_rfl) (fun _ _ _ h => h) (Or.inl ⟨by rfl, ?y7x7⟩) hHeld ?r7x7
      case y7x7 => (intro w hSw; (try dsimp only at hSw); go_simp; try with_reducible rfl)
      try simp only [Act.put, List.setIfInBounds_toArray, List.set_cons_zero, List.set_cons_succ]
      refine' wpAnyH_take (i := 8) (v := _) (by simp only [List.getElem?_toArray, List.getElem?_cons_succ, List.getElem?_cons_zero]; exact rfl) (by kernel_rfl) (by kernel_rfl) (by kernel_rfl) (fun _ _ _ h => h) (Or.inl ⟨by rfl, ?y8x8⟩) hHeld ?r8x8
      case y8x8 => (intro w hSw; (try dsimp only at hSw); go_simp; try with_reducible rfl)
      try simp only [Act.put, List.setIfInBounds_toArray, List.set_cons_zero, List.set_cons_succ]
      refine' wpAnyH_take (i := 9) (v := _) (by simp only [List.getElem?_toArray, List.getElem?_cons_succ, List.getElem?_cons_zero]; exact rfl) (by kernel_rfl) (by kernel_rfl) (by kernel_rfl) (fun _ _ _ h => h) (Or.inl ⟨by rfl, ?y9x9⟩) hHeld ?r9x9
      case y9x9 => (intro w hSw; (try dsimp only at hSw); go_simp; try with_reducible rfl)
      try simp only [Act.put, List.setIfInBounds_toArray, List.set_cons_zero, List.set_cons_succ]
      refine' wpAnyH_take (i := 10) (v := _) (by simp only [List.getElem?_toArray, List.getElem?_cons_succ, List.getElem?_cons_zero]; exact rfl) (by kernel_rfl) (by kernel_rfl) (by kernel_rfl) (fun _ _ _ h => h) (Or.inl ⟨by rfl, ?y10x10⟩) hHeld ?r10x10
      case y10x10 => (intro w hSw; (try dsimp only at hSw); go_simp; try with_reducible rfl)
      try simp only [Act.put, List.setIfInBounds_toArray, List.set_cons_zero, List.set_cons_succ]
      refine' wpAnyH_take (i := 11) (v := _) (by simp only [List.getElem?_toArray, List.getElem?_cons_succ, List.getElem?_cons_zero]; exact rfl) (by kernel_rfl) (by kernel_rfl) (by kernel_rfl) (fun _ _ _ h => h) (Or.inl ⟨by rfl, ?y11x11⟩) hHeld ?r11x11
      case y11x11 => (intro w hSw; (try dsimp only at hSw); go_simp; try with_reducible rfl)
      try simp only [Act.put, List.setIfInBounds_toArray, List.set_cons_zero, List.set_cons_succ]
      refine' wpAnyH_take (i := 12) (v := _) (by simp only [List.getElem?_toArray, List.getElem?_cons_succ, List.getElem?_cons_zero]; exact rfl) (by kernel_rfl) (by kernel_rfl) (by kernel_rfl) (fun _ _ _ h => h) (Or.inl ⟨by rfl, ?y12x12⟩) hHeld ?r12x12
      case y12x12 => (intro w hSw; (try dsimp only at hSw); go_simp; try with_reducible rfl)
      try simp only [Act.put, List.setIfInBounds_toArray, List.set_cons_zero, List.set_cons_succ]
      refine' wpAnyH_take (i := 13) (v := _) (by simp only [List.getElem?_toArray, List.getElem?_cons_succ, List.getElem?_cons_zero]; exact rfl) (by kernel_rfl) (by kernel_rfl) (by kernel_rfl) (fun _ _ _ h => h) (Or.inl ⟨by rfl, ?y13x13⟩) hHeld ?r13x13
      case y13x13 => (intro w hSw; (try dsimp only at hSw); go_simp; try with_reducible rfl)
      try simp only [Act.put, List.setIfInBounds_toArray, List.set_cons_zero, List.set_cons_succ]
      refine wpAnyH_ready (rs := [14]) (by kernel_rfl) (by simp) ?_
      refine AllReadyH.cons (by simp only [List.getElem?_toArray, List.getElem?_cons_succ, List.getElem?_cons_zero]; exact rfl) (fun K hK => ?_) AllReadyH.nil
      go_simp
      refine (clamp_b n 0 l.positions _).mono ?_
      rintro e w' ⟨rfl, hb⟩
      refine hK.out _ _ (stepM hHeld hb) (fun hHeld => ?_)
      clear hK K hb
      try simp only [Act.put, List.setIfInBounds_toArray, List.set_cons_zero, List.set_cons_succ]
      refine' wpAnyH_take (i := 15) (v := _) (by simp only [List.getElem?_toArray, List.getElem?_cons_succ, List.getElem?_cons_zero]; exact rfl) (by kernel_rfl) (by kernel_rfl) (by kernel_rfl) (fun _ _ _ h => h) (Or.inl ⟨by rfl, ?y15x14⟩) hHeld ?r15x14
      case y15x14 => (intro w hSw; (try dsimp only at hSw); go_simp; try with_reducible rfl)
      try simp only [Act.put, List.setIfInBounds_toArray, List.set_cons_zero, List.set_cons_succ]
      refine' wpAnyH_take (i := 16) (v := _) (by simp only [List.getElem?_toArray, List.getElem?_cons_succ, List.getElem?_cons_zero]; exact rfl) (by kernel_rfl) (by kernel_rfl) (by kernel_rfl) (fun _ _ _ h => h) (Or.inl ⟨by rfl, ?y16x15⟩) hHeld ?r16x15
      case y16x15 => (intro w hSw; (try dsimp only at hSw); go_simp; try with_reducible rfl)
      try simp only [Act.put, List.setIfInBounds_toArray, List.set_cons_zero, List.set_cons_succ]
      refine' wpAnyH_take (i := 17) (v := _) (by simp only [List.getElem?_toArray, List.getElem?_cons_succ, List.getElem?_cons_zero]; exact rfl) (by kernel_rfl) (by kernel_rfl) (by kernel_rfl) (fun _ _ _ h => h) (Or.inl ⟨by rfl, ?y17x16⟩) hHeld ?r17x16
      case y17x16 => (intro w hSw; (try dsimp only at hSw); go_simp; try with_reducible rfl)
      try simp only [Act.put, List.setIfInBounds_toArray, List.set_cons_zero, List.set_cons_succ]
      refine wpAnyH_done (by kernel_rfl) ?_ _
      refine NoPanic.normal ?_
      obtain ⟨qL, qG, -, -, qB⟩ := hHeld
      have Lh6 := Lib.hid qL
      have Gh6 := Lib.hid qG
      have HB6 := Lib.hid qB
      clear qL qG qB Lh5 Gh5 HB5
      have p1 : 0 ≤ p := HPI.out.1
      have p2 : p ≤ 64 := by have := HPI.out.2; omega
      have t1 : 0 ≤ t := HTB.out.1
      have t2 : t ≤ 64 := by have := HTB.out.2; omega
      go_wp2_with (first | (refine wpList_load_rowW (by first | rfl | (go_simp; done) | go_simp) 26 _ rfl _ rfl 26 _ _ _ Lh6.out undLk rfl infoLk ?_) | (refine wpList_load_rowW (by first | rfl | (go_simp; done) | go_simp) 28 _ rfl _ rfl 28 _ _ _ Gh6.out undGt rfl infoGt ?_))
      refine ((show ∀ W, Calls Try.prog 12 #[.agg #[.string l.name, .int .i64 l.kind, .int .i64 l.src, .int .i64 l.dst, v1, v2, v3, .int .i64 l.positions, .int .i64 l.speed, .int .i64 l.leak, .int .i64 l.crest, .int .i64 l.num, .int .i64 l.den, .int .i64 l.prime, .int .i64 l.brk, .int .i64 l.backNum, .int .i64 l.backDen, .int .i64 l.delay], .agg #[.int .i64 p, .int .i64 t, .bool s, .bool o], .int .i64 0] W (RetG ⟨p, t, true, o⟩ W) from fun W => fault_any l v1 v2 v3 ⟨p, t, s, o⟩ 0 (Or.inl rfl) W) _).mono ?_
      rintro e w6 ⟨rfl, hb⟩
      have HB7 := Lib.hid (HB6.out.trans (hb.mono HB6.out.size))
      have Lh7 := Lib.hid (blk_below Lh6.out hb (blk_lt Lh6.out))
      have Gh7 := Lib.hid (blk_below Gh6.out hb (blk_lt Gh6.out))
      clear HB6 Lh6 Gh6
      clear hb
      go_upto_region 8 with fail
      have HB8 := Lib.hid (HB7.out.alloc HB7.out.size (.cells #[.int .i64 p, .int .i64 t, .bool true, .bool o] 28 (0, 0)))
      have Sh8 := Lib.hid (heap_alloc_new w6 (.cells #[.int .i64 p, .int .i64 t, .bool true, .bool o] 28 (0, 0)))
      have Lh8 := Lib.hid (blk_below Lh7.out ((Below.refl w6.heap.size w6).alloc (Nat.le_refl _) (.cells #[.int .i64 p, .int .i64 t, .bool true, .bool o] 28 (0, 0))) (blk_lt Lh7.out))
      have Gh8 := Lib.hid (blk_below Gh7.out ((Below.refl w6.heap.size w6).alloc (Nat.le_refl _) (.cells #[.int .i64 p, .int .i64 t, .bool true, .bool o] 28 (0, 0))) (blk_lt Gh7.out))
      clear HB7 Lh7 Gh7
      generalize w6.heap.size = bS at *
      generalize w6.alloc (.cells #[.int .i64 p, .int .i64 t, .bool true, .bool o] 28 (0, 0)) = w7 at *
      go_wp2_with (first | (refine wpList_load_rowW (by first | rfl | (go_simp; done) | go_simp) 26 _ rfl _ rfl 26 _ _ _ Lh8.out undLk rfl infoLk ?_) | (refine wpList_load_rowW (by first | rfl | (go_simp; done) | go_simp) 28 _ rfl _ rfl 28 _ _ _ Gh8.out undGt rfl infoGt ?_) | (refine wpList_load_rowW (by first | rfl | (go_simp; done) | go_simp) 28 _ rfl _ rfl 28 _ _ _ Sh8.out undGt rfl infoGt ?_))
      refine ((show ∀ W, Calls Try.prog 12 #[.agg #[.string l.name, .int .i64 l.kind, .int .i64 l.src, .int .i64 l.dst, v1, v2, v3, .int .i64 l.positions, .int .i64 l.speed, .int .i64 l.leak, .int .i64 l.crest, .int .i64 l.num, .int .i64 l.den, .int .i64 l.prime, .int .i64 l.brk, .int .i64 l.backNum, .int .i64 l.backDen, .int .i64 l.delay], .agg #[.int .i64 p, .int .i64 t, .bool true, .bool o], .int .i64 1] W (RetG ⟨p, t, false, o⟩ W) from fun W => fault_any l v1 v2 v3 ⟨p, t, true, o⟩ 1 (Or.inr rfl) W) _).mono ?_
      rintro e w8 ⟨rfl, hb⟩
      have HB9 := Lib.hid (HB8.out.trans (hb.mono HB8.out.size))
      have Lh9 := Lib.hid (blk_below Lh8.out hb (blk_lt Lh8.out))
      have Gh9 := Lib.hid (blk_below Gh8.out hb (blk_lt Gh8.out))
      have Sh9 := Lib.hid (blk_below Sh8.out hb (blk_lt Sh8.out))
      clear HB8 Lh8 Gh8 Sh8
      clear hb
      go_upto_region 9 with fail
      have HB10 := Lib.hid (HB9.out.alloc HB9.out.size (.cells #[.int .i64 p, .int .i64 t, .bool false, .bool o] 28 (0, 0)))
      have Rh10 := Lib.hid (heap_alloc_new w8 (.cells #[.int .i64 p, .int .i64 t, .bool false, .bool o] 28 (0, 0)))
      have Lh10 := Lib.hid (blk_below Lh9.out ((Below.refl w8.heap.size w8).alloc (Nat.le_refl _) (.cells #[.int .i64 p, .int .i64 t, .bool false, .bool o] 28 (0, 0))) (blk_lt Lh9.out))
      have Gh10 := Lib.hid (blk_below Gh9.out ((Below.refl w8.heap.size w8).alloc (Nat.le_refl _) (.cells #[.int .i64 p, .int .i64 t, .bool false, .bool o] 28 (0, 0))) (blk_lt Gh9.out))
      have Sh10 := Lib.hid (blk_below Sh9.out ((Below.refl w8.heap.size w8).alloc (Nat.le_refl _) (.cells #[.int .i64 p, .int .i64 t, .bool false, .bool o] 28 (0, 0))) (blk_lt Sh9.out))
      clear HB9 Lh9 Gh9 Sh9
      generalize w8.heap.size = bR at *
      generalize w8.alloc (.cells #[.int .i64 p, .int .i64 t, .bool false, .bool o] 28 (0, 0)) = w9 at *
      have HMS : Hid (∀ W, Calls Try.prog 13 #[.agg #[.string l.name, .int .i64 l.kind, .int .i64 l.src, .int .i64 l.dst, v1, v2, v3, .int .i64 l.positions, .int .i64 l.speed, .int .i64 l.leak, .int .i64 l.crest, .int .i64 l.num, .int .i64 l.den, .int .i64 l.prime, .int .i64 l.brk, .int .i64 l.backNum, .int .i64 l.backDen, .int .i64 l.delay], .agg #[.int .i64 p, .int .i64 t, .bool true, .bool o]] W (RetG ⟨p, t, true, o⟩ W)) := Lib.hid fun W => move_any l v1 v2 v3 ⟨p, t, true, o⟩ W HSP.out HPP.out (show I64 t from ⟨by omega, by omega⟩)
      have q6 := eqGt
      refine wp_region_noPanic ?_
      refine wp_region_held_drew (S := fun w' => w'.heap[w.heap.size]? = some (.cells #[.string l.name, .int .i64 l.kind, .int .i64 l.src, .int .i64 l.dst, v1, v2, v3, .int .i64 l.positions, .int .i64 l.speed, .int .i64 l.leak, .int .i64 l.crest, .int .i64 l.num, .int .i64 l.den, .int .i64 l.prime, .int .i64 l.brk, .int .i64 l.backNum, .int .i64 l.backDen, .int .i64 l.delay] 26 (0, 0)) ∧ w'.heap[(w.heap.size + 1)]? = some (.cells #[.int .i64 p, .int .i64 t, .bool s, .bool o] 28 (0, 0)) ∧ w'.heap[bS]? = some (.cells #[.int .i64 p, .int .i64 t, .bool true, .bool o] 28 (0, 0)) ∧ w'.heap[bR]? = some (.cells #[.int .i64 p, .int .i64 t, .bool false, .bool o] 28 (0, 0)) ∧ w'.cell? ⟨bS, 2, none⟩ = some (.bool true) ∧ w'.cell? ⟨bR, 0, none⟩ = some (.int .i64 p) ∧ w'.cell? ⟨bR, 1, none⟩ = some (.int .i64 t) ∧ w'.cell? ⟨bR, 2, none⟩ = some (.bool false) ∧ w'.cell? ⟨bR, 3, none⟩ = some (.bool o) ∧ w'.cell? ⟨(w.heap.size + 1), 0, none⟩ = some (.int .i64 p) ∧ w'.cell? ⟨(w.heap.size + 1), 1, none⟩ = some (.int .i64 t) ∧ w'.cell? ⟨(w.heap.size + 1), 3, none⟩ = some (.bool o) ∧ Below w.heap.size w w') (by kernel_rfl) (stepQ ⟨Lh10.out, Gh10.out, Sh10.out, Rh10.out, rowN Sh10.out 2 _ rfl, rowN Rh10.out 0 _ rfl, rowN Rh10.out 1 _ rfl, rowN Rh10.out 2 _ rfl, rowN Rh10.out 3 _ rfl, rowN Gh10.out 0 _ rfl, rowN Gh10.out 1 _ rfl, rowN Gh10.out 3 _ rfl, HB10.out⟩ (Below.refl _ _).drew) (fun hHeld => ?_)
      refine' wpAnyH_take (i := 0) (v := _) (by simp only [List.getElem?_toArray, List.getElem?_cons_succ, List.getElem?_cons_zero]; exact rfl) (by kernel_rfl) (by kernel_rfl) (by kernel_rfl) (fun _ _ _ h => h) (Or.inl ⟨by rfl, ?y0x27⟩) hHeld ?r0x27
      case y0x27 => (intro w hSw; (try dsimp only at hSw); go_simp; try with_reducible rfl)
      try simp only [Act.put, List.setIfInBounds_toArray, List.set_cons_zero, List.set_cons_succ]
      refine' wpAnyH_take (i := 1) (v := _) (by simp only [List.getElem?_toArray, List.getElem?_cons_succ, List.getElem?_cons_zero]; exact rfl) (by kernel_rfl) (by kernel_rfl) (by kernel_rfl) (fun _ _ _ h => h) (Or.inl ⟨by rfl, ?y1x28⟩) hHeld ?r1x28
      case y1x28 => (intro w hSw; (try dsimp only at hSw); go_simp; try with_reducible rfl)
      try simp only [Act.put, List.setIfInBounds_toArray, List.set_cons_zero, List.set_cons_succ]
      refine' wpAnyH_take (i := 2) (v := _) (by simp only [List.getElem?_toArray, List.getElem?_cons_succ, List.getElem?_cons_zero]; exact rfl) (by kernel_rfl) (by kernel_rfl) (by kernel_rfl) (fun _ _ _ h => h) (Or.inl ⟨by rfl, ?y2x29⟩) hHeld ?r2x29
      case y2x29 => (intro w hSw; (try dsimp only at hSw); go_simp; try with_reducible rfl)
      try simp only [Act.put, List.setIfInBounds_toArray, List.set_cons_zero, List.set_cons_succ]
      refine' wpAnyH_take (i := 3) (v := _) (by simp only [List.getElem?_toArray, List.getElem?_cons_succ, List.getElem?_cons_zero]; exact rfl) (by kernel_rfl) (by kernel_rfl) (by kernel_rfl) (fun _ _ _ h => h) (Or.inl ⟨by rfl, ?y3x30⟩) hHeld ?r3x30
      case y3x30 => (intro w hSw; (try dsimp only at hSw); go_simp; try with_reducible rfl)
      try simp only [Act.put, List.setIfInBounds_toArray, List.set_cons_zero, List.set_cons_succ]
      refine' wpAnyH_take (i := 4) (v := _) (by simp only [List.getElem?_toArray, List.getElem?_cons_succ, List.getElem?_cons_zero]; exact rfl) (by kernel_rfl) (by kernel_rfl) (by kernel_rfl) (fun _ _ _ h => h) (Or.inl ⟨by rfl, ?y4x31⟩) hHeld ?r4x31
      case y4x31 => (intro w hSw; refine exec_load_row 26 ?_ ?_ _ ?_ 26 _ _ _ (hSw.1) undLk rfl infoLk; rotate_left 1; exact rfl; exact rfl)
      try simp only [Act.put, List.setIfInBounds_toArray, List.set_cons_zero, List.set_cons_succ]
      refine' wpAnyH_take (i := 5) (v := _) (by simp only [List.getElem?_toArray, List.getElem?_cons_succ, List.getElem?_cons_zero]; exact rfl) (by kernel_rfl) (by kernel_rfl) (by kernel_rfl) (fun _ _ _ h => h) (Or.inl ⟨by rfl, ?y5x32⟩) hHeld ?r5x32
      case y5x32 => (intro w hSw; refine exec_load_row 28 ?_ ?_ _ ?_ 28 _ _ _ (hSw.2.2.1) undGt rfl infoGt; rotate_left 1; exact rfl; exact rfl)
      try simp only [Act.put, List.setIfInBounds_toArray, List.set_cons_zero, List.set_cons_succ]
      refine' wpAnyH_take (i := 7) (v := _) (by simp only [List.getElem?_toArray, List.getElem?_cons_succ, List.getElem?_cons_zero]; exact rfl) (by kernel_rfl) (by kernel_rfl) (by kernel_rfl) (fun _ _ _ h => h) (Or.inl ⟨by rfl, ?y7x33⟩) hHeld ?r7x33
      case y7x33 => (intro w hSw; refine exec_load_row 28 ?_ ?_ _ ?_ 28 _ _ _ (hSw.2.2.1) undGt rfl infoGt; rotate_left 1; exact rfl; exact rfl)
      try simp only [Act.put, List.setIfInBounds_toArray, List.set_cons_zero, List.set_cons_succ]
      refine wpAnyH_ready (rs := [6]) (by kernel_rfl) (by simp) ?_
      refine AllReadyH.cons (by simp only [List.getElem?_toArray, List.getElem?_cons_succ, List.getElem?_cons_zero]; exact rfl) (fun K hK => ?_) AllReadyH.nil
      go_simp
      refine (HMS.out _).mono ?_
      rintro e w' ⟨rfl, hb⟩
      refine hK.out _ _ (stepQ hHeld hb) (fun hHeld => ?_)
      clear hK K hb
      try simp only [Act.put, List.setIfInBounds_toArray, List.set_cons_zero, List.set_cons_succ]
      refine' wpAnyH_take (i := 8) (v := _) (by simp only [List.getElem?_toArray, List.getElem?_cons_succ, List.getElem?_cons_zero]; exact rfl) (by kernel_rfl) (by kernel_rfl) (by kernel_rfl) (fun _ _ _ h => h) (Or.inl ⟨by rfl, ?y8x34⟩) hHeld ?r8x34
      case y8x34 => (intro w hSw; (try dsimp only at hSw); go_simp; try with_reducible rfl)
      try simp only [Act.put, List.setIfInBounds_toArray, List.set_cons_zero, List.set_cons_succ]
      refine' wpAnyH_take (i := 9) (v := _) (by simp only [List.getElem?_toArray, List.getElem?_cons_succ, List.getElem?_cons_zero]; exact rfl) (by kernel_rfl) (by kernel_rfl) (by kernel_rfl) (fun _ _ _ h => h) (Or.inl ⟨by rfl, ?y9x35⟩) hHeld ?r9x35
      case y9x35 => (intro w hSw; (try dsimp only at hSw); go_simp; try with_reducible rfl)
      try simp only [Act.put, List.setIfInBounds_toArray, List.set_cons_zero, List.set_cons_succ]
      refine' wpAnyH_take (i := 10) (v := _) (by simp only [List.getElem?_toArray, List.getElem?_cons_succ, List.getElem?_cons_zero]; exact rfl) (by kernel_rfl) (by kernel_rfl) (by kernel_rfl) (fun _ _ _ h => h) (Or.inl ⟨by rfl, ?y10x36⟩) hHeld ?r10x36
      case y10x36 => (intro w hSw; (try dsimp only at hSw); go_simp; try with_reducible rfl)
      try simp only [Act.put, List.setIfInBounds_toArray, List.set_cons_zero, List.set_cons_succ]
      refine' wpAnyH_take (i := 11) (v := _) (by simp only [List.getElem?_toArray, List.getElem?_cons_succ, List.getElem?_cons_zero]; exact rfl) (by kernel_rfl) (by kernel_rfl) (by kernel_rfl) (fun _ _ _ h => h) (Or.inl ⟨by rfl, ?y11x37⟩) hHeld ?r11x37
      case y11x37 => (intro w hSw; (try dsimp only at hSw); go_simp; try with_reducible rfl)
      try simp only [Act.put, List.setIfInBounds_toArray, List.set_cons_zero, List.set_cons_succ]
      refine' wpAnyH_take (i := 12) (v := _) (by simp only [List.getElem?_toArray, List.getElem?_cons_succ, List.getElem?_cons_zero]; exact rfl) (by kernel_rfl) (by kernel_rfl) (by kernel_rfl) (fun _ _ _ h => h) (Or.inl ⟨by rfl, ?y12x38⟩) hHeld ?r12x38
      case y12x38 => (intro w hSw; (try dsimp only at hSw); go_simp; try with_reducible rfl)
      try simp only [Act.put, List.setIfInBounds_toArray, List.set_cons_zero, List.set_cons_succ]
      refine' wpAnyH_take (i := 13) (v := _) (by simp only [List.getElem?_toArray, List.getElem?_cons_succ, List.getElem?_cons_zero]; exact rfl) (by kernel_rfl) (by kernel_rfl) (by kernel_rfl) (fun _ _ _ h => h) (Or.inl ⟨by rfl, ?y13x39⟩) hHeld ?r13x39
      case y13x39 => (intro w hSw; (try dsimp only at hSw); go_simp; try with_reducible rfl)
      try simp only [Act.put, List.setIfInBounds_toArray, List.set_cons_zero, List.set_cons_succ]
      refine' wpAnyH_take (i := 14) (v := _) (by simp only [List.getElem?_toArray, List.getElem?_cons_succ, List.getElem?_cons_zero]; exact rfl) (by kernel_rfl) (by kernel_rfl) (by kernel_rfl) (fun _ _ _ h => h) (Or.inl ⟨by rfl, ?y14x40⟩) hHeld ?r14x40
      case y14x40 => (intro w hSw; (try dsimp only at hSw); go_simp; try with_reducible rfl)
      try simp only [Act.put, List.setIfInBounds_toArray, List.set_cons_zero, List.set_cons_succ]
      refine' wpAnyH_take (i := 15) (v := _) (by simp only [List.getElem?_toArray, List.getElem?_cons_succ, List.getElem?_cons_zero]; exact rfl) (by kernel_rfl) (by kernel_rfl) (by kernel_rfl) (fun _ _ _ h => h) (Or.inl ⟨by rfl, ?y15x41⟩) hHeld ?r15x41
      case y15x41 => (intro w hSw; (try dsimp only at hSw); go_simp; try with_reducible rfl)
      try simp only [Act.put, List.setIfInBounds_toArray, List.set_cons_zero, List.set_cons_succ]
      refine' wpAnyH_take (i := 16) (v := _) (by simp only [List.getElem?_toArray, List.getElem?_cons_succ, List.getElem?_cons_zero]; exact rfl) (by kernel_rfl) (by kernel_rfl) (by kernel_rfl) (fun _ _ _ h => h) (Or.inl ⟨by rfl, ?y16x42⟩) hHeld ?r16x42
      case y16x42 => (intro w hSw; (try dsimp only at hSw); go_simp; try with_reducible rfl)
      try simp only [Act.put, List.setIfInBounds_toArray, List.set_cons_zero, List.set_cons_succ]
      refine' wpAnyH_take (i := 17) (v := _) (by simp only [List.getElem?_toArray, List.getElem?_cons_succ, List.getElem?_cons_zero]; exact rfl) (by kernel_rfl) (by kernel_rfl) (by kernel_rfl) (fun _ _ _ h => h) (Or.inl ⟨by rfl, ?y17x43⟩) hHeld ?r17x43
      case y17x43 => (intro w hSw; (try dsimp only at hSw); go_simp; try with_reducible rfl)
      try simp only [Act.put, List.setIfInBounds_toArray, List.set_cons_zero, List.set_cons_succ]
      refine' wpAnyH_take (i := 18) (v := _) (by simp only [List.getElem?_toArray, List.getElem?_cons_succ, List.getElem?_cons_zero]; exact rfl) (by kernel_rfl) (by kernel_rfl) (by kernel_rfl) (fun _ _ _ h => h) (Or.inl ⟨by rfl, ?y18x44⟩) hHeld ?r18x44
      case y18x44 => (intro w hSw; (try dsimp only at hSw); go_simp; try with_reducible rfl)
      try simp only [Act.put, List.setIfInBounds_toArray, List.set_cons_zero, List.set_cons_succ]
      refine' wpAnyH_take (i := 19) (v := _) (by simp only [List.getElem?_toArray, List.getElem?_cons_succ, List.getElem?_cons_zero]; exact rfl) (by kernel_rfl) (by kernel_rfl) (by kernel_rfl) (fun _ _ _ h => h) (Or.inl ⟨by rfl, ?y19x45⟩) hHeld ?r19x45
      case y19x45 => (intro w hSw; (try dsimp only at hSw); go_simp; try with_reducible rfl)
      try simp only [Act.put, List.setIfInBounds_toArray, List.set_cons_zero, List.set_cons_succ]
      refine' wpAnyH_take (i := 20) (v := _) (by simp only [List.getElem?_toArray, List.getElem?_cons_succ, List.getElem?_cons_zero]; exact rfl) (by kernel_rfl) (by kernel_rfl) (by kernel_rfl) (fun _ _ _ h => h) (Or.inl ⟨by rfl, ?y20x46⟩) hHeld ?r20x46
      case y20x46 => (intro w hSw; (try dsimp only at hSw); go_simp; try with_reducible rfl)
      try simp only [Act.put, List.setIfInBounds_toArray, List.set_cons_zero, List.set_cons_succ]
      refine' wpAnyH_take (i := 21) (v := _) (by simp only [List.getElem?_toArray, List.getElem?_cons_succ, List.getElem?_cons_zero]; exact rfl) (by kernel_rfl) (by kernel_rfl) (by kernel_rfl) (fun _ _ _ h => h) (Or.inl ⟨by rfl, ?y21x47⟩) hHeld ?r21x47
      case y21x47 => (intro w hSw; (try dsimp only at hSw); go_simp; try with_reducible rfl)
      try simp only [Act.put, List.setIfInBounds_toArray, List.set_cons_zero, List.set_cons_succ]
      refine' wpAnyH_take (i := 22) (v := _) (by simp only [List.getElem?_toArray, List.getElem?_cons_succ, List.getElem?_cons_zero]; exact rfl) (by kernel_rfl) (by kernel_rfl) (by kernel_rfl) (fun _ _ _ h => h) (Or.inl ⟨by rfl, ?y22x48⟩) hHeld ?r22x48
      case y22x48 => (intro w hSw; (try dsimp only at hSw); go_simp; try with_reducible rfl)
      try simp only [Act.put, List.setIfInBounds_toArray, List.set_cons_zero, List.set_cons_succ]
      refine' wpAnyH_take (i := 23) (v := _) (by simp only [List.getElem?_toArray, List.getElem?_cons_succ, List.getElem?_cons_zero]; exact rfl) (by kernel_rfl) (by kernel_rfl) (by kernel_rfl) (fun _ _ _ h => h) (Or.inl ⟨by rfl, ?y23x49⟩) hHeld ?r23x49
      case y23x49 => (intro w hSw; (try dsimp only at hSw); go_simp; try with_reducible rfl)
      try simp only [Act.put, List.setIfInBounds_toArray, List.set_cons_zero, List.set_cons_succ]
      refine' wpAnyH_take (i := 24) (v := _) (by simp only [List.getElem?_toArray, List.getElem?_cons_succ, List.getElem?_cons_zero]; exact rfl) (by kernel_rfl) (by kernel_rfl) (by kernel_rfl) (fun _ _ _ h => h) (Or.inl ⟨by rfl, ?y24x50⟩) hHeld ?r24x50
      case y24x50 => (intro w hSw; (try dsimp only at hSw); go_simp; try with_reducible rfl)
      try simp only [Act.put, List.setIfInBounds_toArray, List.set_cons_zero, List.set_cons_succ]
      refine' wpAnyH_take (i := 25) (v := _) (by simp only [List.getElem?_toArray, List.getElem?_cons_succ, List.getElem?_cons_zero]; exact rfl) (by kernel_rfl) (by kernel_rfl) (by kernel_rfl) (fun _ _ _ h => h) (Or.inl ⟨by rfl, ?y25x51⟩) hHeld ?r25x51
      case y25x51 => (intro w hSw; (try dsimp only at hSw); go_simp; try with_reducible rfl)
      try simp only [Act.put, List.setIfInBounds_toArray, List.set_cons_zero, List.set_cons_succ]
      refine' wpAnyH_take (i := 26) (v := _) (by simp only [List.getElem?_toArray, List.getElem?_cons_succ, List.getElem?_cons_zero]; exact rfl) (by kernel_rfl) (by kernel_rfl) (by kernel_rfl) (fun _ _ _ h => h) (Or.inl ⟨by rfl, ?y26x52⟩) hHeld ?r26x52
      case y26x52 => (intro w hSw; (try dsimp only at hSw); go_simp; try with_reducible rfl)
      try simp only [Act.put, List.setIfInBounds_toArray, List.set_cons_zero, List.set_cons_succ]
      refine' wpAnyH_take (i := 27) (v := _) (by simp only [List.getElem?_toArray, List.getElem?_cons_succ, List.getElem?_cons_zero]; exact rfl) (by kernel_rfl) (by kernel_rfl) (by kernel_rfl) (fun _ _ _ h => h) (Or.inl ⟨by rfl, ?y27x53⟩) hHeld ?r27x53
      case y27x53 => (intro w hSw; (try dsimp only at hSw); go_simp; try with_reducible rfl)
      try simp only [Act.put, List.setIfInBounds_toArray, List.set_cons_zero, List.set_cons_succ]
      refine' wpAnyH_take (i := 28) (v := _) (by simp only [List.getElem?_toArray, List.getElem?_cons_succ, List.getElem?_cons_zero]; exact rfl) (by kernel_rfl) (by kernel_rfl) (by kernel_rfl) (fun _ _ _ h => h) (Or.inl ⟨by rfl, ?y28x54⟩) hHeld ?r28x54
      case y28x54 => (intro w hSw; (try dsimp only at hSw); go_simp; try with_reducible rfl)
      try simp only [Act.put, List.setIfInBounds_toArray, List.set_cons_zero, List.set_cons_succ]
      refine' wpAnyH_take (i := 29) (v := _) (by simp only [List.getElem?_toArray, List.getElem?_cons_succ, List.getElem?_cons_zero]; exact rfl) (by kernel_rfl) (by kernel_rfl) (by kernel_rfl) (fun _ _ _ h => h) (Or.inl ⟨by rfl, ?y29x55⟩) hHeld ?r29x55
      case y29x55 => (intro w hSw; (try dsimp only at hSw); go_simp; try with_reducible rfl)
      try simp only [Act.put, List.setIfInBounds_toArray, List.set_cons_zero, List.set_cons_succ]
      refine' wpAnyH_take (i := 30) (v := _) (by simp only [List.getElem?_toArray, List.getElem?_cons_succ, List.getElem?_cons_zero]; exact rfl) (by kernel_rfl) (by kernel_rfl) (by kernel_rfl) (fun _ _ _ h => h) (Or.inl ⟨by rfl, ?y30x56⟩) hHeld ?r30x56
      case y30x56 => (intro w hSw; (try dsimp only at hSw); go_simp; try with_reducible rfl)
      try simp only [Act.put, List.setIfInBounds_toArray, List.set_cons_zero, List.set_cons_succ]
      refine' wpAnyH_take (i := 31) (v := _) (by simp only [List.getElem?_toArray, List.getElem?_cons_succ, List.getElem?_cons_zero]; exact rfl) (by kernel_rfl) (by kernel_rfl) (by kernel_rfl) (fun _ _ _ h => h) (Or.inl ⟨by rfl, ?y31x57⟩) hHeld ?r31x57
      case y31x57 => (intro w hSw; (try dsimp only at hSw); go_simp; try with_reducible rfl)
      try simp only [Act.put, List.setIfInBounds_toArray, List.set_cons_zero, List.set_cons_succ]
      refine' wpAnyH_take (i := 32) (v := _) (by simp only [List.getElem?_toArray, List.getElem?_cons_succ, List.getElem?_cons_zero]; exact rfl) (by kernel_rfl) (by kernel_rfl) (by kernel_rfl) (fun _ _ _ h => h) (Or.inl ⟨by rfl, ?y32x58⟩) hHeld ?r32x58
      case y32x58 => (intro w hSw; (try dsimp only at hSw); go_simp; try with_reducible rfl)
      try simp only [Act.put, List.setIfInBounds_toArray, List.set_cons_zero, List.set_cons_succ]
      refine' wpAnyH_take (i := 33) (v := _) (by simp only [List.getElem?_toArray, List.getElem?_cons_succ, List.getElem?_cons_zero]; exact rfl) (by kernel_rfl) (by kernel_rfl) (by kernel_rfl) (fun _ _ _ h => h) (Or.inl ⟨by rfl, ?y33x59⟩) hHeld ?r33x59
      case y33x59 => (intro w hSw; (try dsimp only at hSw); go_simp; try with_reducible rfl)
      try simp only [Act.put, List.setIfInBounds_toArray, List.set_cons_zero, List.set_cons_succ]
      refine' wpAnyH_take (i := 34) (v := _) (by simp only [List.getElem?_toArray, List.getElem?_cons_succ, List.getElem?_cons_zero]; exact rfl) (by kernel_rfl) (by kernel_rfl) (by kernel_rfl) (fun _ _ _ h => h) (Or.inl ⟨by rfl, ?y34x60⟩) hHeld ?r34x60
      case y34x60 => (intro w hSw; (try dsimp only at hSw); go_simp; try with_reducible rfl)
      try simp only [Act.put, List.setIfInBounds_toArray, List.set_cons_zero, List.set_cons_succ]
      refine wpAnyH_done (by kernel_rfl) ?_ _
      refine NoPanic.normal ?_
      clear q6
      obtain ⟨qL, qG, qS, qR, -, -, -, -, -, -, -, -, qB⟩ := hHeld
      have Lh11 := Lib.hid qL
      have Gh11 := Lib.hid qG
      have Sh11 := Lib.hid qS
      have Rh11 := Lib.hid qR
      have HB11 := Lib.hid qB
      clear qL qG qS qR qB Lh10 Gh10 Sh10 Rh10 HB10
      have d0 := rowN Gh11.out 0 (.int .i64 p) rfl
      have d1 := rowN Gh11.out 1 (.int .i64 t) rfl
      go_upto_region 12 with fail
      clear d0 d1
      obtain ⟨far, hfar⟩ : ∃ f, f = max (t - p) (p - t) := ⟨_, rfl⟩
      rw [← hfar]
      have f1 : 0 ≤ far := by omega
      have f2 : far ≤ 64 := by omega
      obtain ⟨q, hq⟩ : ∃ q, q = mv l.speed t p := ⟨_, rfl⟩
      have hqi := mv_in (s := l.speed) (P := l.positions) m3 HPI.out HTB.out
      rw [← hq] at hqi
      have q1 : 0 ≤ q := hqi.1
      have q2 : q ≤ 64 := by have := hqi.2; omega
      have NF : (max (t - q) (q - t) != far - min far l.speed) = false := by rw [hq, mv_near m3, ← hfar]; simp
      have HI0 : Hid (InvM l.speed p t far 0 q) := Lib.hid (by rw [hq, hfar]; exact inv_start m3)
      have HQI := Lib.hid hqi
      have HFar := Lib.hid hfar
      have HMV : Hid (∀ x : Int, 0 ≤ x ∧ x ≤ l.positions → ∀ W, Calls Try.prog 13 #[.agg #[.string l.name, .int .i64 l.kind, .int .i64 l.src, .int .i64 l.dst, v1, v2, v3, .int .i64 l.positions, .int .i64 l.speed, .int .i64 l.leak, .int .i64 l.crest, .int .i64 l.num, .int .i64 l.den, .int .i64 l.prime, .int .i64 l.brk, .int .i64 l.backNum, .int .i64 l.backDen, .int .i64 l.delay], .agg #[.int .i64 x, .int .i64 t, .bool false, .bool o]] W (RetG ⟨mv l.speed t x, t, false, o⟩ W)) := Lib.hid fun x hx W => by
          have h := move_any l v1 v2 v3 ⟨x, t, false, o⟩ W HSP.out (show I64 x from ⟨by omega, by omega⟩) (show I64 t from ⟨by omega, by omega⟩)
          rw [move_mv m3 m4 m2 hx HTB.out] at h
          exact h
      have HMQ : Hid (∀ W, Calls Try.prog 13 #[.agg #[.string l.name, .int .i64 l.kind, .int .i64 l.src, .int .i64 l.dst, v1, v2, v3, .int .i64 l.positions, .int .i64 l.speed, .int .i64 l.leak, .int .i64 l.crest, .int .i64 l.num, .int .i64 l.den, .int .i64 l.prime, .int .i64 l.brk, .int .i64 l.backNum, .int .i64 l.backDen, .int .i64 l.delay], .agg #[.int .i64 p, .int .i64 t, .bool false, .bool o]] W (RetG ⟨q, t, false, o⟩ W)) := Lib.hid fun W => by have h := HMV.out p HPI.out W; rw [← hq] at h; exact h
      clear hfar hq hqi
      go_wp2_with (first | (refine wpList_load_rowW (by first | rfl | (go_simp; done) | go_simp) 26 _ rfl _ rfl 26 _ _ _ Lh11.out undLk rfl infoLk ?_) | (refine wpList_load_rowW (by first | rfl | (go_simp; done) | go_simp) 28 _ rfl _ rfl 28 _ _ _ Rh11.out undGt rfl infoGt ?_))
      refine (HMQ.out _).mono ?_
      rintro e w10 ⟨rfl, hb⟩
      have HB12 := Lib.hid (HB11.out.trans (hb.mono HB11.out.size))
      have Lh12 := Lib.hid (blk_below Lh11.out hb (blk_lt Lh11.out))
      have Gh12 := Lib.hid (blk_below Gh11.out hb (blk_lt Gh11.out))
      have Sh12 := Lib.hid (blk_below Sh11.out hb (blk_lt Sh11.out))
      have Rh12 := Lib.hid (blk_below Rh11.out hb (blk_lt Rh11.out))
      clear HB11 Lh11 Gh11 Sh11 Rh11
      clear hb
      have HbH := Lib.hid (blk_lt Gh12.out)
      go_upto_region 13 with fail
      have HB13 := Lib.hid (HB12.out.alloc HB12.out.size (.cells #[.int .i64 q, .int .i64 t, .bool false, .bool o] 28 (0, 0)))
      have Hh13 := Lib.hid (heap_alloc_new w10 (.cells #[.int .i64 q, .int .i64 t, .bool false, .bool o] 28 (0, 0)))
      have Lh13 := Lib.hid (blk_below Lh12.out ((Below.refl w10.heap.size w10).alloc (Nat.le_refl _) (.cells #[.int .i64 q, .int .i64 t, .bool false, .bool o] 28 (0, 0))) (blk_lt Lh12.out))
      have Gh13 := Lib.hid (blk_below Gh12.out ((Below.refl w10.heap.size w10).alloc (Nat.le_refl _) (.cells #[.int .i64 q, .int .i64 t, .bool false, .bool o] 28 (0, 0))) (blk_lt Gh12.out))
      have Sh13 := Lib.hid (blk_below Sh12.out ((Below.refl w10.heap.size w10).alloc (Nat.le_refl _) (.cells #[.int .i64 q, .int .i64 t, .bool false, .bool o] 28 (0, 0))) (blk_lt Sh12.out))
      have Rh13 := Lib.hid (blk_below Rh12.out ((Below.refl w10.heap.size w10).alloc (Nat.le_refl _) (.cells #[.int .i64 q, .int .i64 t, .bool false, .bool o] 28 (0, 0))) (blk_lt Rh12.out))
      clear HB12 Lh12 Gh12 Sh12 Rh12
      generalize w10.heap.size = bH at *
      generalize w10.alloc (.cells #[.int .i64 q, .int .i64 t, .bool false, .bool o] 28 (0, 0)) = w11 at *
      have d0 := rowN Hh13.out 0 (.int .i64 q) rfl
      have d1 := rowN Hh13.out 1 (.int .i64 t) rfl
      go_upto_region 14 with fail
      clear d0 d1
      go_wp2_with (first | (refine wpList_load_rowW (by first | rfl | (go_simp; done) | go_simp) 26 _ rfl _ rfl 26 _ _ _ Lh13.out undLk rfl infoLk ?_) | (refine wpList_load_rowW (by first | rfl | (go_simp; done) | go_simp) 28 _ rfl _ rfl 28 _ _ _ Hh13.out undGt rfl infoGt ?_))
      refine (HV.out _ _ _ _ HQI.out HTB.out _).mono ?_
      rintro e w12 ⟨rfl, hb⟩
      have HB14 := Lib.hid (HB13.out.trans (hb.mono HB13.out.size))
      have Lh14 := Lib.hid (blk_below Lh13.out hb (blk_lt Lh13.out))
      have Gh14 := Lib.hid (blk_below Gh13.out hb (blk_lt Gh13.out))
      have Sh14 := Lib.hid (blk_below Sh13.out hb (blk_lt Sh13.out))
      have Rh14 := Lib.hid (blk_below Rh13.out hb (blk_lt Rh13.out))
      have Hh14 := Lib.hid (blk_below Hh13.out hb (blk_lt Hh13.out))
      clear HB13 Lh13 Gh13 Sh13 Rh13 Hh13
      clear hb
      have d1 := rowN Hh14.out 1 (.int .i64 t) rfl
      have d2 := rowN Hh14.out 2 (.bool false) rfl
      have d3 := rowN Hh14.out 3 (.bool o) rfl
      have g1 := rowN Gh14.out 1 (.int .i64 t) rfl
      have g3 := rowN Gh14.out 3 (.bool o) rfl
      have c8 := rowN Lh14.out 8 (.int .i64 l.speed) rfl
      go_wp2_with fail
      clear d1 d2 d3 g1 g3 c8 NF
      have hbH := HbH.out
      go_loopw [13] (fun nv wr => ∃ (i : Nat) (x : Int), (i : Int) ≤ far ∧ nv = .int .i64 i ∧ 0 ≤ x ∧ x ≤ l.positions ∧ InvM l.speed p t far i x ∧ wr.heap[w.heap.size]? = some (.cells #[.string l.name, .int .i64 l.kind, .int .i64 l.src, .int .i64 l.dst, v1, v2, v3, .int .i64 l.positions, .int .i64 l.speed, .int .i64 l.leak, .int .i64 l.crest, .int .i64 l.num, .int .i64 l.den, .int .i64 l.prime, .int .i64 l.brk, .int .i64 l.backNum, .int .i64 l.backDen, .int .i64 l.delay] 26 (0, 0)) ∧ wr.heap[w.heap.size + 1]? = some (.cells #[.int .i64 p, .int .i64 t, .bool s, .bool o] 28 (0, 0)) ∧ wr.heap[bH]? = some (.cells #[.int .i64 x, .int .i64 t, .bool false, .bool o] 28 (0, 0)) ∧ Below w.heap.size w wr) (fun nv _ => (far - intOf nv).toNat)
      case atStart => exact ⟨0, q, f1, rfl, HQI.out.1, HQI.out.2, HI0.out, Lh14.out, Gh14.out, Hh14.out, HB14.out⟩
      case round =>
        obtain ⟨i, x, hi, rfl, x1, x2, hinv, qL, qG, qH, qB⟩ := hrel
        have Lr := Lib.hid qL
        have Gr := Lib.hid qG
        have Hr := Lib.hid qH
        have Br := Lib.hid qB
        have HIV := Lib.hid hinv
        clear qL qG qH qB hinv Lh14 Gh14 Hh14 Sh14 Rh14 HB14 HI0
        by_cases hlt : (i : Int) < far
        · go_wp2_with (first | (refine wpList_load_rowW (by rfl) 26 _ rfl _ rfl 26 _ _ _ Lr.out undLk rfl infoLk ?_) | (refine wpList_load_rowW (by rfl) 28 _ rfl _ rfl 28 _ _ _ Hr.out undGt rfl infoGt ?_))
          refine (HMV.out x ⟨x1, x2⟩ _).mono ?_
          rintro e w2 ⟨rfl, hb⟩
          have HM1 := Lib.hid (mv_in (s := l.speed) (P := l.positions) m3 ⟨x1, x2⟩ HTB.out)
          have HIN := Lib.hid (inv_next m3 HIV.out)
          generalize mv l.speed t x = y at *
          have L2 := Lib.hid (blk_below Lr.out hb (blk_lt Lr.out))
          have G2 := Lib.hid (blk_below Gr.out hb (blk_lt Gr.out))
          have H2 := Lib.hid (blk_below Hr.out hb (blk_lt Hr.out))
          have B2 := Lib.hid (Br.out.trans (hb.mono Br.out.size))
          clear hb
          go_wp2_with (refine wpList_store_row rfl 28 _ _ rfl bH #[.int .i64 y, .int .i64 t, .bool false, .bool o] rfl rfl 28 _ H2.out infoGt rfl (by simp [Value.oneCell']) ?_)
          go_roundw
          case rel => exact ⟨i + 1, y, by omega, by go_num, HM1.out.1, HM1.out.2, HIN.out, (setRow_other _ _ _ _ (by omega)).trans L2.out, (setRow_other _ _ _ _ (by omega)).trans G2.out, setRow_heap _ _ _ _ _ _ H2.out, below_setRow B2.out (by omega) _⟩
          case measure => simp [intOf]; omega
        · have hie : (i : Int) = far := by omega
          have e0 := rowN Hr.out 0 (.int .i64 x) rfl
          have e1 := rowN Gr.out 1 (.int .i64 t) rfl
          have e2 := rowN Gr.out 0 (.int .i64 p) rfl
          have e8 := rowN Lr.out 8 (.int .i64 l.speed) rfl
          have HEND := Lib.hid (inv_end hie HIV.out)
          clear hie
          by_cases hs : l.speed = 0
          · obtain rfl : x = p := HEND.out.1 hs
            have b1 : (l.speed == 0) = true := by rw [hs]; rfl
            have b2 : decide (0 < l.speed) = false := decide_eq_false (by omega)
            clear hs
            go_wp2_with fail
            go_ret
            exact ⟨rfl, Br.out⟩
          · obtain rfl : x = t := HEND.out.2 (by omega)
            have b1 : (l.speed == 0) = false := beq_eq_false_iff_ne.2 hs
            have b2 : decide (0 < l.speed) = true := decide_eq_true (by omega)
            clear hs
            go_wp2_with fail
            go_ret
            exact ⟨rfl, Br.out⟩
    · have hd0 : decide (0 < l.positions) = false := decide_eq_false hpos
      refine wp_region_noPanic ?_
      refine wp_region_held_drew (S := fun w' => w'.heap[w.heap.size]? = some (.cells #[.string l.name, .int .i64 l.kind, .int .i64 l.src, .int .i64 l.dst, v1, v2, v3, .int .i64 l.positions, .int .i64 l.speed, .int .i64 l.leak, .int .i64 l.crest, .int .i64 l.num, .int .i64 l.den, .int .i64 l.prime, .int .i64 l.brk, .int .i64 l.backNum, .int .i64 l.backDen, .int .i64 l.delay] 26 (0, 0)) ∧ w'.heap[(w.heap.size + 1)]? = some (.cells #[.int .i64 p, .int .i64 t, .bool s, .bool o] 28 (0, 0)) ∧ w'.cell? ⟨w.heap.size, 7, none⟩ = some (.int .i64 l.positions) ∧ w'.cell? ⟨(w.heap.size + 1), 1, none⟩ = some (.int .i64 t) ∧ Below w.heap.size w w') (by kernel_rfl) (stepM ⟨Lh5.out, Gh5.out, rowN Lh5.out 7 _ rfl, rowN Gh5.out 1 _ rfl, HB5.out⟩ (Below.refl _ _).drew) (fun hHeld => ?_)
      refine' wpAnyH_take (i := 0) (v := _) (by simp only [List.getElem?_toArray, List.getElem?_cons_succ, List.getElem?_cons_zero]; exact rfl) (by kernel_rfl) (by kernel_rfl) (by kernel_rfl) (fun _ _ _ h => h) (Or.inl ⟨by rfl, ?y0x17⟩) hHeld ?r0x17
      case y0x17 => (intro w hSw; refine exec_load_row 26 ?_ ?_ _ ?_ 26 _ _ _ (hSw.1) undLk rfl infoLk; rotate_left 1; exact rfl; exact rfl)
      try simp only [Act.put, List.setIfInBounds_toArray, List.set_cons_zero, List.set_cons_succ]
      refine' wpAnyH_take (i := 1) (v := _) (by simp only [List.getElem?_toArray, List.getElem?_cons_succ, List.getElem?_cons_zero]; exact rfl) (by kernel_rfl) (by kernel_rfl) (by kernel_rfl) (fun _ _ _ h => h) (Or.inl ⟨by rfl, ?y1x18⟩) hHeld ?r1x18
      case y1x18 => (intro w hSw; refine exec_load_row 28 ?_ ?_ _ ?_ 28 _ _ _ (hSw.2.1) undGt rfl infoGt; rotate_left 1; exact rfl; exact rfl)
      try simp only [Act.put, List.setIfInBounds_toArray, List.set_cons_zero, List.set_cons_succ]
      refine wpAnyH_ready (rs := [2]) (by kernel_rfl) (by simp) ?_
      refine AllReadyH.cons (by simp only [List.getElem?_toArray, List.getElem?_cons_succ, List.getElem?_cons_zero]; exact rfl) (fun K hK => ?_) AllReadyH.nil
      go_simp
      refine (HV.out _ _ _ _ HPI.out HTB.out _).mono ?_
      rintro e w' ⟨rfl, hb⟩
      refine hK.out _ _ (stepM hHeld hb) (fun hHeld => ?_)
      clear hK K hb
      try simp only [Act.put, List.setIfInBounds_toArray, List.set_cons_zero, List.set_cons_succ]
      refine' wpAnyH_take (i := 3) (v := _) (by simp only [List.getElem?_toArray, List.getElem?_cons_succ, List.getElem?_cons_zero]; exact rfl) (by kernel_rfl) (by kernel_rfl) (by kernel_rfl) (fun _ _ _ h => h) (Or.inl ⟨by rfl, ?y3x19⟩) hHeld ?r3x19
      case y3x19 => (intro w hSw; (try dsimp only at hSw); go_simp; try with_reducible rfl)
      try simp only [Act.put, List.setIfInBounds_toArray, List.set_cons_zero, List.set_cons_succ]
      refine' wpAnyH_take (i := 4) (v := _) (by simp only [List.getElem?_toArray, List.getElem?_cons_succ, List.getElem?_cons_zero]; exact rfl) (by kernel_rfl) (by kernel_rfl) (by kernel_rfl) (fun _ _ _ h => h) (Or.inl ⟨by rfl, ?y4x20⟩) hHeld ?r4x20
      case y4x20 => (intro w hSw; (try dsimp only at hSw); go_simp; try with_reducible rfl)
      try simp only [Act.put, List.setIfInBounds_toArray, List.set_cons_zero, List.set_cons_succ]
      refine' wpAnyH_take (i := 5) (v := _) (by simp only [List.getElem?_toArray, List.getElem?_cons_succ, List.getElem?_cons_zero]; exact rfl) (by kernel_rfl) (by kernel_rfl) (by kernel_rfl) (fun _ _ _ h => h) (Or.inl ⟨by rfl, ?y5x21⟩) hHeld ?r5x21
      case y5x21 => (intro w hSw; (try dsimp only at hSw); go_simp; try with_reducible rfl)
      try simp only [Act.put, List.setIfInBounds_toArray, List.set_cons_zero, List.set_cons_succ]
      refine' wpAnyH_take (i := 6) (v := _) (by simp only [List.getElem?_toArray, List.getElem?_cons_succ, List.getElem?_cons_zero]; exact rfl) (by kernel_rfl) (by kernel_rfl) (by kernel_rfl) (fun _ _ _ h => h) (Or.inl ⟨by rfl, ?y6x22⟩) hHeld ?r6x22
      case y6x22 => (intro w hSw; (try dsimp only at hSw); go_simp; try with_reducible rfl)
      try simp only [Act.put, List.setIfInBounds_toArray, List.set_cons_zero, List.set_cons_succ]
      refine' wpAnyH_take (i := 7) (v := _) (by simp only [List.getElem?_toArray, List.getElem?_cons_succ, List.getElem?_cons_zero]; exact rfl) (by kernel_rfl) (by kernel_rfl) (by kernel_rfl) (fun _ _ _ h => h) (Or.inl ⟨by rfl, ?y7x23⟩) hHeld ?r7x23
      case y7x23 => (intro w hSw; (try dsimp only at hSw); go_simp; try with_reducible rfl)
      try simp only [Act.put, List.setIfInBounds_toArray, List.set_cons_zero, List.set_cons_succ]
      refine' wpAnyH_take (i := 8) (v := _) (by simp only [List.getElem?_toArray, List.getElem?_cons_succ, List.getElem?_cons_zero]; exact rfl) (by kernel_rfl) (by kernel_rfl) (by kernel_rfl) (fun _ _ _ h => h) (Or.inl ⟨by rfl, ?y8x24⟩) hHeld ?r8x24
      case y8x24 => (intro w hSw; (try dsimp only at hSw); go_simp; try with_reducible rfl)
      try simp only [Act.put, List.setIfInBounds_toArray, List.set_cons_zero, List.set_cons_succ]
      refine wpAnyH_take (i := 9) (v := undef) (by simp only [List.getElem?_toArray, List.getElem?_cons_succ, List.getElem?_cons_zero]; exact rfl) (by kernel_rfl) (by kernel_rfl) (by kernel_rfl) (fun _ _ _ h => h) (Or.inr ⟨by rfl, rfl⟩) hHeld ?_
      try simp only [Act.put, List.setIfInBounds_toArray, List.set_cons_zero, List.set_cons_succ]
      refine wpAnyH_take (i := 10) (v := undef) (by simp only [List.getElem?_toArray, List.getElem?_cons_succ, List.getElem?_cons_zero]; exact rfl) (by kernel_rfl) (by kernel_rfl) (by kernel_rfl) (fun _ _ _ h => h) (Or.inr ⟨by rfl, rfl⟩) hHeld ?_
      try simp only [Act.put, List.setIfInBounds_toArray, List.set_cons_zero, List.set_cons_succ]
      refine wpAnyH_take (i := 11) (v := undef) (by simp only [List.getElem?_toArray, List.getElem?_cons_succ, List.getElem?_cons_zero]; exact rfl) (by kernel_rfl) (by kernel_rfl) (by kernel_rfl) (fun _ _ _ h => h) (Or.inr ⟨by rfl, rfl⟩) hHeld ?_
      try simp only [Act.put, List.setIfInBounds_toArray, List.set_cons_zero, List.set_cons_succ]
      refine wpAnyH_take (i := 12) (v := undef) (by simp only [List.getElem?_toArray, List.getElem?_cons_succ, List.getElem?_cons_zero]; exact rfl) (by kernel_rfl) (by kernel_rfl) (by kernel_rfl) (fun _ _ _ h => h) (Or.inr ⟨by rfl, rfl⟩) hHeld ?_
      try simp only [Act.put, List.setIfInBounds_toArray, List.set_cons_zero, List.set_cons_succ]
      refine wpAnyH_take (i := 13) (v := undef) (by simp only [List.getElem?_toArray, List.getElem?_cons_succ, List.getElem?_cons_zero]; exact rfl) (by kernel_rfl) (by kernel_rfl) (by kernel_rfl) (fun _ _ _ h => h) (Or.inr ⟨by rfl, rfl⟩) hHeld ?_
      try simp only [Act.put, List.setIfInBounds_toArray, List.set_cons_zero, List.set_cons_succ]
      refine wpAnyH_take (i := 14) (v := undef) (by simp only [List.getElem?_toArray, List.getElem?_cons_succ, List.getElem?_cons_zero]; exact rfl) (by kernel_rfl) (by kernel_rfl) (by kernel_rfl) (fun _ _ _ h => h) (Or.inr ⟨by rfl, rfl⟩) hHeld ?_
      try simp only [Act.put, List.setIfInBounds_toArray, List.set_cons_zero, List.set_cons_succ]
      refine wpAnyH_take (i := 15) (v := undef) (by simp only [List.getElem?_toArray, List.getElem?_cons_succ, List.getElem?_cons_zero]; exact rfl) (by kernel_rfl) (by kernel_rfl) (by kernel_rfl) (fun _ _ _ h => h) (Or.inr ⟨by rfl, rfl⟩) hHeld ?_
      try simp only [Act.put, List.setIfInBounds_toArray, List.set_cons_zero, List.set_cons_succ]
      refine' wpAnyH_take (i := 16) (v := _) (by simp only [List.getElem?_toArray, List.getElem?_cons_succ, List.getElem?_cons_zero]; exact rfl) (by kernel_rfl) (by kernel_rfl) (by kernel_rfl) (fun _ _ _ h => h) (Or.inl ⟨by rfl, ?y16x25⟩) hHeld ?r16x25
      case y16x25 => (intro w hSw; (try dsimp only at hSw); go_simp; try with_reducible rfl)
      try simp only [Act.put, List.setIfInBounds_toArray, List.set_cons_zero, List.set_cons_succ]
      refine' wpAnyH_take (i := 17) (v := _) (by simp only [List.getElem?_toArray, List.getElem?_cons_succ, List.getElem?_cons_zero]; exact rfl) (by kernel_rfl) (by kernel_rfl) (by kernel_rfl) (fun _ _ _ h => h) (Or.inl ⟨by rfl, ?y17x26⟩) hHeld ?r17x26
      case y17x26 => (intro w hSw; (try dsimp only at hSw); go_simp; try with_reducible rfl)
      try simp only [Act.put, List.setIfInBounds_toArray, List.set_cons_zero, List.set_cons_succ]
      refine wpAnyH_done (by kernel_rfl) ?_ _
      refine NoPanic.normal ?_
      obtain ⟨qL, qG, -, -, qB⟩ := hHeld
      have Lh6 := Lib.hid qL
      have Gh6 := Lib.hid qG
      have HB6 := Lib.hid qB
      clear qL qG qB Lh5 Gh5 HB5
      have p1 : 0 ≤ p := HPI.out.1
      have p2 : p ≤ 64 := by have := HPI.out.2; omega
      have t1 : 0 ≤ t := HTB.out.1
      have t2 : t ≤ 64 := by have := HTB.out.2; omega
      go_wp2_with (first | (refine wpList_load_rowW (by first | rfl | (go_simp; done) | go_simp) 26 _ rfl _ rfl 26 _ _ _ Lh6.out undLk rfl infoLk ?_) | (refine wpList_load_rowW (by first | rfl | (go_simp; done) | go_simp) 28 _ rfl _ rfl 28 _ _ _ Gh6.out undGt rfl infoGt ?_))
      refine ((show ∀ W, Calls Try.prog 12 #[.agg #[.string l.name, .int .i64 l.kind, .int .i64 l.src, .int .i64 l.dst, v1, v2, v3, .int .i64 l.positions, .int .i64 l.speed, .int .i64 l.leak, .int .i64 l.crest, .int .i64 l.num, .int .i64 l.den, .int .i64 l.prime, .int .i64 l.brk, .int .i64 l.backNum, .int .i64 l.backDen, .int .i64 l.delay], .agg #[.int .i64 p, .int .i64 t, .bool s, .bool o], .int .i64 0] W (RetG ⟨p, t, true, o⟩ W) from fun W => fault_any l v1 v2 v3 ⟨p, t, s, o⟩ 0 (Or.inl rfl) W) _).mono ?_
      rintro e w6 ⟨rfl, hb⟩
      have HB7 := Lib.hid (HB6.out.trans (hb.mono HB6.out.size))
      have Lh7 := Lib.hid (blk_below Lh6.out hb (blk_lt Lh6.out))
      have Gh7 := Lib.hid (blk_below Gh6.out hb (blk_lt Gh6.out))
      clear HB6 Lh6 Gh6
      clear hb
      go_upto_region 8 with fail
      have HB8 := Lib.hid (HB7.out.alloc HB7.out.size (.cells #[.int .i64 p, .int .i64 t, .bool true, .bool o] 28 (0, 0)))
      have Sh8 := Lib.hid (heap_alloc_new w6 (.cells #[.int .i64 p, .int .i64 t, .bool true, .bool o] 28 (0, 0)))
      have Lh8 := Lib.hid (blk_below Lh7.out ((Below.refl w6.heap.size w6).alloc (Nat.le_refl _) (.cells #[.int .i64 p, .int .i64 t, .bool true, .bool o] 28 (0, 0))) (blk_lt Lh7.out))
      have Gh8 := Lib.hid (blk_below Gh7.out ((Below.refl w6.heap.size w6).alloc (Nat.le_refl _) (.cells #[.int .i64 p, .int .i64 t, .bool true, .bool o] 28 (0, 0))) (blk_lt Gh7.out))
      clear HB7 Lh7 Gh7
      generalize w6.heap.size = bS at *
      generalize w6.alloc (.cells #[.int .i64 p, .int .i64 t, .bool true, .bool o] 28 (0, 0)) = w7 at *
      go_wp2_with (first | (refine wpList_load_rowW (by first | rfl | (go_simp; done) | go_simp) 26 _ rfl _ rfl 26 _ _ _ Lh8.out undLk rfl infoLk ?_) | (refine wpList_load_rowW (by first | rfl | (go_simp; done) | go_simp) 28 _ rfl _ rfl 28 _ _ _ Gh8.out undGt rfl infoGt ?_) | (refine wpList_load_rowW (by first | rfl | (go_simp; done) | go_simp) 28 _ rfl _ rfl 28 _ _ _ Sh8.out undGt rfl infoGt ?_))
      refine ((show ∀ W, Calls Try.prog 12 #[.agg #[.string l.name, .int .i64 l.kind, .int .i64 l.src, .int .i64 l.dst, v1, v2, v3, .int .i64 l.positions, .int .i64 l.speed, .int .i64 l.leak, .int .i64 l.crest, .int .i64 l.num, .int .i64 l.den, .int .i64 l.prime, .int .i64 l.brk, .int .i64 l.backNum, .int .i64 l.backDen, .int .i64 l.delay], .agg #[.int .i64 p, .int .i64 t, .bool true, .bool o], .int .i64 1] W (RetG ⟨p, t, false, o⟩ W) from fun W => fault_any l v1 v2 v3 ⟨p, t, true, o⟩ 1 (Or.inr rfl) W) _).mono ?_
      rintro e w8 ⟨rfl, hb⟩
      have HB9 := Lib.hid (HB8.out.trans (hb.mono HB8.out.size))
      have Lh9 := Lib.hid (blk_below Lh8.out hb (blk_lt Lh8.out))
      have Gh9 := Lib.hid (blk_below Gh8.out hb (blk_lt Gh8.out))
      have Sh9 := Lib.hid (blk_below Sh8.out hb (blk_lt Sh8.out))
      clear HB8 Lh8 Gh8 Sh8
      clear hb
      go_upto_region 9 with fail
      have HB10 := Lib.hid (HB9.out.alloc HB9.out.size (.cells #[.int .i64 p, .int .i64 t, .bool false, .bool o] 28 (0, 0)))
      have Rh10 := Lib.hid (heap_alloc_new w8 (.cells #[.int .i64 p, .int .i64 t, .bool false, .bool o] 28 (0, 0)))
      have Lh10 := Lib.hid (blk_below Lh9.out ((Below.refl w8.heap.size w8).alloc (Nat.le_refl _) (.cells #[.int .i64 p, .int .i64 t, .bool false, .bool o] 28 (0, 0))) (blk_lt Lh9.out))
      have Gh10 := Lib.hid (blk_below Gh9.out ((Below.refl w8.heap.size w8).alloc (Nat.le_refl _) (.cells #[.int .i64 p, .int .i64 t, .bool false, .bool o] 28 (0, 0))) (blk_lt Gh9.out))
      have Sh10 := Lib.hid (blk_below Sh9.out ((Below.refl w8.heap.size w8).alloc (Nat.le_refl _) (.cells #[.int .i64 p, .int .i64 t, .bool false, .bool o] 28 (0, 0))) (blk_lt Sh9.out))
      clear HB9 Lh9 Gh9 Sh9
      generalize w8.heap.size = bR at *
      generalize w8.alloc (.cells #[.int .i64 p, .int .i64 t, .bool false, .bool o] 28 (0, 0)) = w9 at *
      have HMS : Hid (∀ W, Calls Try.prog 13 #[.agg #[.string l.name, .int .i64 l.kind, .int .i64 l.src, .int .i64 l.dst, v1, v2, v3, .int .i64 l.positions, .int .i64 l.speed, .int .i64 l.leak, .int .i64 l.crest, .int .i64 l.num, .int .i64 l.den, .int .i64 l.prime, .int .i64 l.brk, .int .i64 l.backNum, .int .i64 l.backDen, .int .i64 l.delay], .agg #[.int .i64 p, .int .i64 t, .bool true, .bool o]] W (RetG ⟨p, t, true, o⟩ W)) := Lib.hid fun W => move_any l v1 v2 v3 ⟨p, t, true, o⟩ W HSP.out HPP.out (show I64 t from ⟨by omega, by omega⟩)
      have q6 := eqGt
      refine wp_region_noPanic ?_
      refine wp_region_held_drew (S := fun w' => w'.heap[w.heap.size]? = some (.cells #[.string l.name, .int .i64 l.kind, .int .i64 l.src, .int .i64 l.dst, v1, v2, v3, .int .i64 l.positions, .int .i64 l.speed, .int .i64 l.leak, .int .i64 l.crest, .int .i64 l.num, .int .i64 l.den, .int .i64 l.prime, .int .i64 l.brk, .int .i64 l.backNum, .int .i64 l.backDen, .int .i64 l.delay] 26 (0, 0)) ∧ w'.heap[(w.heap.size + 1)]? = some (.cells #[.int .i64 p, .int .i64 t, .bool s, .bool o] 28 (0, 0)) ∧ w'.heap[bS]? = some (.cells #[.int .i64 p, .int .i64 t, .bool true, .bool o] 28 (0, 0)) ∧ w'.heap[bR]? = some (.cells #[.int .i64 p, .int .i64 t, .bool false, .bool o] 28 (0, 0)) ∧ w'.cell? ⟨bS, 2, none⟩ = some (.bool true) ∧ w'.cell? ⟨bR, 0, none⟩ = some (.int .i64 p) ∧ w'.cell? ⟨bR, 1, none⟩ = some (.int .i64 t) ∧ w'.cell? ⟨bR, 2, none⟩ = some (.bool false) ∧ w'.cell? ⟨bR, 3, none⟩ = some (.bool o) ∧ w'.cell? ⟨(w.heap.size + 1), 0, none⟩ = some (.int .i64 p) ∧ w'.cell? ⟨(w.heap.size + 1), 1, none⟩ = some (.int .i64 t) ∧ w'.cell? ⟨(w.heap.size + 1), 3, none⟩ = some (.bool o) ∧ Below w.heap.size w w') (by kernel_rfl) (stepQ ⟨Lh10.out, Gh10.out, Sh10.out, Rh10.out, rowN Sh10.out 2 _ rfl, rowN Rh10.out 0 _ rfl, rowN Rh10.out 1 _ rfl, rowN Rh10.out 2 _ rfl, rowN Rh10.out 3 _ rfl, rowN Gh10.out 0 _ rfl, rowN Gh10.out 1 _ rfl, rowN Gh10.out 3 _ rfl, HB10.out⟩ (Below.refl _ _).drew) (fun hHeld => ?_)
      refine' wpAnyH_take (i := 0) (v := _) (by simp only [List.getElem?_toArray, List.getElem?_cons_succ, List.getElem?_cons_zero]; exact rfl) (by kernel_rfl) (by kernel_rfl) (by kernel_rfl) (fun _ _ _ h => h) (Or.inl ⟨by rfl, ?y0x27b⟩) hHeld ?r0x27b
      case y0x27b => (intro w hSw; (try dsimp only at hSw); go_simp; try with_reducible rfl)
      try simp only [Act.put, List.setIfInBounds_toArray, List.set_cons_zero, List.set_cons_succ]
      refine' wpAnyH_take (i := 1) (v := _) (by simp only [List.getElem?_toArray, List.getElem?_cons_succ, List.getElem?_cons_zero]; exact rfl) (by kernel_rfl) (by kernel_rfl) (by kernel_rfl) (fun _ _ _ h => h) (Or.inl ⟨by rfl, ?y1x28b⟩) hHeld ?r1x28b
      case y1x28b => (intro w hSw; (try dsimp only at hSw); go_simp; try with_reducible rfl)
      try simp only [Act.put, List.setIfInBounds_toArray, List.set_cons_zero, List.set_cons_succ]
      refine' wpAnyH_take (i := 2) (v := _) (by simp only [List.getElem?_toArray, List.getElem?_cons_succ, List.getElem?_cons_zero]; exact rfl) (by kernel_rfl) (by kernel_rfl) (by kernel_rfl) (fun _ _ _ h => h) (Or.inl ⟨by rfl, ?y2x29b⟩) hHeld ?r2x29b
      case y2x29b => (intro w hSw; (try dsimp only at hSw); go_simp; try with_reducible rfl)
      try simp only [Act.put, List.setIfInBounds_toArray, List.set_cons_zero, List.set_cons_succ]
      refine' wpAnyH_take (i := 3) (v := _) (by simp only [List.getElem?_toArray, List.getElem?_cons_succ, List.getElem?_cons_zero]; exact rfl) (by kernel_rfl) (by kernel_rfl) (by kernel_rfl) (fun _ _ _ h => h) (Or.inl ⟨by rfl, ?y3x30b⟩) hHeld ?r3x30b
      case y3x30b => (intro w hSw; (try dsimp only at hSw); go_simp; try with_reducible rfl)
      try simp only [Act.put, List.setIfInBounds_toArray, List.set_cons_zero, List.set_cons_succ]
      refine' wpAnyH_take (i := 4) (v := _) (by simp only [List.getElem?_toArray, List.getElem?_cons_succ, List.getElem?_cons_zero]; exact rfl) (by kernel_rfl) (by kernel_rfl) (by kernel_rfl) (fun _ _ _ h => h) (Or.inl ⟨by rfl, ?y4x31b⟩) hHeld ?r4x31b
      case y4x31b => (intro w hSw; refine exec_load_row 26 ?_ ?_ _ ?_ 26 _ _ _ (hSw.1) undLk rfl infoLk; rotate_left 1; exact rfl; exact rfl)
      try simp only [Act.put, List.setIfInBounds_toArray, List.set_cons_zero, List.set_cons_succ]
      refine' wpAnyH_take (i := 5) (v := _) (by simp only [List.getElem?_toArray, List.getElem?_cons_succ, List.getElem?_cons_zero]; exact rfl) (by kernel_rfl) (by kernel_rfl) (by kernel_rfl) (fun _ _ _ h => h) (Or.inl ⟨by rfl, ?y5x32b⟩) hHeld ?r5x32b
      case y5x32b => (intro w hSw; refine exec_load_row 28 ?_ ?_ _ ?_ 28 _ _ _ (hSw.2.2.1) undGt rfl infoGt; rotate_left 1; exact rfl; exact rfl)
      try simp only [Act.put, List.setIfInBounds_toArray, List.set_cons_zero, List.set_cons_succ]
      refine' wpAnyH_take (i := 7) (v := _) (by simp only [List.getElem?_toArray, List.getElem?_cons_succ, List.getElem?_cons_zero]; exact rfl) (by kernel_rfl) (by kernel_rfl) (by kernel_rfl) (fun _ _ _ h => h) (Or.inl ⟨by rfl, ?y7x33b⟩) hHeld ?r7x33b
      case y7x33b => (intro w hSw; refine exec_load_row 28 ?_ ?_ _ ?_ 28 _ _ _ (hSw.2.2.1) undGt rfl infoGt; rotate_left 1; exact rfl; exact rfl)
      try simp only [Act.put, List.setIfInBounds_toArray, List.set_cons_zero, List.set_cons_succ]
      refine wpAnyH_ready (rs := [6]) (by kernel_rfl) (by simp) ?_
      refine AllReadyH.cons (by simp only [List.getElem?_toArray, List.getElem?_cons_succ, List.getElem?_cons_zero]; exact rfl) (fun K hK => ?_) AllReadyH.nil
      go_simp
      refine (HMS.out _).mono ?_
      rintro e w' ⟨rfl, hb⟩
      refine hK.out _ _ (stepQ hHeld hb) (fun hHeld => ?_)
      clear hK K hb
      try simp only [Act.put, List.setIfInBounds_toArray, List.set_cons_zero, List.set_cons_succ]
      refine' wpAnyH_take (i := 8) (v := _) (by simp only [List.getElem?_toArray, List.getElem?_cons_succ, List.getElem?_cons_zero]; exact rfl) (by kernel_rfl) (by kernel_rfl) (by kernel_rfl) (fun _ _ _ h => h) (Or.inl ⟨by rfl, ?y8x34b⟩) hHeld ?r8x34b
      case y8x34b => (intro w hSw; (try dsimp only at hSw); go_simp; try with_reducible rfl)
      try simp only [Act.put, List.setIfInBounds_toArray, List.set_cons_zero, List.set_cons_succ]
      refine' wpAnyH_take (i := 9) (v := _) (by simp only [List.getElem?_toArray, List.getElem?_cons_succ, List.getElem?_cons_zero]; exact rfl) (by kernel_rfl) (by kernel_rfl) (by kernel_rfl) (fun _ _ _ h => h) (Or.inl ⟨by rfl, ?y9x35b⟩) hHeld ?r9x35b
      case y9x35b => (intro w hSw; (try dsimp only at hSw); go_simp; try with_reducible rfl)
      try simp only [Act.put, List.setIfInBounds_toArray, List.set_cons_zero, List.set_cons_succ]
      refine' wpAnyH_take (i := 10) (v := _) (by simp only [List.getElem?_toArray, List.getElem?_cons_succ, List.getElem?_cons_zero]; exact rfl) (by kernel_rfl) (by kernel_rfl) (by kernel_rfl) (fun _ _ _ h => h) (Or.inl ⟨by rfl, ?y10x36b⟩) hHeld ?r10x36b
      case y10x36b => (intro w hSw; (try dsimp only at hSw); go_simp; try with_reducible rfl)
      try simp only [Act.put, List.setIfInBounds_toArray, List.set_cons_zero, List.set_cons_succ]
      refine' wpAnyH_take (i := 11) (v := _) (by simp only [List.getElem?_toArray, List.getElem?_cons_succ, List.getElem?_cons_zero]; exact rfl) (by kernel_rfl) (by kernel_rfl) (by kernel_rfl) (fun _ _ _ h => h) (Or.inl ⟨by rfl, ?y11x37b⟩) hHeld ?r11x37b
      case y11x37b => (intro w hSw; (try dsimp only at hSw); go_simp; try with_reducible rfl)
      try simp only [Act.put, List.setIfInBounds_toArray, List.set_cons_zero, List.set_cons_succ]
      refine' wpAnyH_take (i := 12) (v := _) (by simp only [List.getElem?_toArray, List.getElem?_cons_succ, List.getElem?_cons_zero]; exact rfl) (by kernel_rfl) (by kernel_rfl) (by kernel_rfl) (fun _ _ _ h => h) (Or.inl ⟨by rfl, ?y12x38b⟩) hHeld ?r12x38b
      case y12x38b => (intro w hSw; (try dsimp only at hSw); go_simp; try with_reducible rfl)
      try simp only [Act.put, List.setIfInBounds_toArray, List.set_cons_zero, List.set_cons_succ]
      refine' wpAnyH_take (i := 13) (v := _) (by simp only [List.getElem?_toArray, List.getElem?_cons_succ, List.getElem?_cons_zero]; exact rfl) (by kernel_rfl) (by kernel_rfl) (by kernel_rfl) (fun _ _ _ h => h) (Or.inl ⟨by rfl, ?y13x39b⟩) hHeld ?r13x39b
      case y13x39b => (intro w hSw; (try dsimp only at hSw); go_simp; try with_reducible rfl)
      try simp only [Act.put, List.setIfInBounds_toArray, List.set_cons_zero, List.set_cons_succ]
      refine' wpAnyH_take (i := 14) (v := _) (by simp only [List.getElem?_toArray, List.getElem?_cons_succ, List.getElem?_cons_zero]; exact rfl) (by kernel_rfl) (by kernel_rfl) (by kernel_rfl) (fun _ _ _ h => h) (Or.inl ⟨by rfl, ?y14x40b⟩) hHeld ?r14x40b
      case y14x40b => (intro w hSw; (try dsimp only at hSw); go_simp; try with_reducible rfl)
      try simp only [Act.put, List.setIfInBounds_toArray, List.set_cons_zero, List.set_cons_succ]
      refine' wpAnyH_take (i := 15) (v := _) (by simp only [List.getElem?_toArray, List.getElem?_cons_succ, List.getElem?_cons_zero]; exact rfl) (by kernel_rfl) (by kernel_rfl) (by kernel_rfl) (fun _ _ _ h => h) (Or.inl ⟨by rfl, ?y15x41b⟩) hHeld ?r15x41b
      case y15x41b => (intro w hSw; (try dsimp only at hSw); go_simp; try with_reducible rfl)
      try simp only [Act.put, List.setIfInBounds_toArray, List.set_cons_zero, List.set_cons_succ]
      refine' wpAnyH_take (i := 16) (v := _) (by simp only [List.getElem?_toArray, List.getElem?_cons_succ, List.getElem?_cons_zero]; exact rfl) (by kernel_rfl) (by kernel_rfl) (by kernel_rfl) (fun _ _ _ h => h) (Or.inl ⟨by rfl, ?y16x42b⟩) hHeld ?r16x42b
      case y16x42b => (intro w hSw; (try dsimp only at hSw); go_simp; try with_reducible rfl)
      try simp only [Act.put, List.setIfInBounds_toArray, List.set_cons_zero, List.set_cons_succ]
      refine' wpAnyH_take (i := 17) (v := _) (by simp only [List.getElem?_toArray, List.getElem?_cons_succ, List.getElem?_cons_zero]; exact rfl) (by kernel_rfl) (by kernel_rfl) (by kernel_rfl) (fun _ _ _ h => h) (Or.inl ⟨by rfl, ?y17x43b⟩) hHeld ?r17x43b
      case y17x43b => (intro w hSw; (try dsimp only at hSw); go_simp; try with_reducible rfl)
      try simp only [Act.put, List.setIfInBounds_toArray, List.set_cons_zero, List.set_cons_succ]
      refine' wpAnyH_take (i := 18) (v := _) (by simp only [List.getElem?_toArray, List.getElem?_cons_succ, List.getElem?_cons_zero]; exact rfl) (by kernel_rfl) (by kernel_rfl) (by kernel_rfl) (fun _ _ _ h => h) (Or.inl ⟨by rfl, ?y18x44b⟩) hHeld ?r18x44b
      case y18x44b => (intro w hSw; (try dsimp only at hSw); go_simp; try with_reducible rfl)
      try simp only [Act.put, List.setIfInBounds_toArray, List.set_cons_zero, List.set_cons_succ]
      refine' wpAnyH_take (i := 19) (v := _) (by simp only [List.getElem?_toArray, List.getElem?_cons_succ, List.getElem?_cons_zero]; exact rfl) (by kernel_rfl) (by kernel_rfl) (by kernel_rfl) (fun _ _ _ h => h) (Or.inl ⟨by rfl, ?y19x45b⟩) hHeld ?r19x45b
      case y19x45b => (intro w hSw; (try dsimp only at hSw); go_simp; try with_reducible rfl)
      try simp only [Act.put, List.setIfInBounds_toArray, List.set_cons_zero, List.set_cons_succ]
      refine' wpAnyH_take (i := 20) (v := _) (by simp only [List.getElem?_toArray, List.getElem?_cons_succ, List.getElem?_cons_zero]; exact rfl) (by kernel_rfl) (by kernel_rfl) (by kernel_rfl) (fun _ _ _ h => h) (Or.inl ⟨by rfl, ?y20x46b⟩) hHeld ?r20x46b
      case y20x46b => (intro w hSw; (try dsimp only at hSw); go_simp; try with_reducible rfl)
      try simp only [Act.put, List.setIfInBounds_toArray, List.set_cons_zero, List.set_cons_succ]
      refine' wpAnyH_take (i := 21) (v := _) (by simp only [List.getElem?_toArray, List.getElem?_cons_succ, List.getElem?_cons_zero]; exact rfl) (by kernel_rfl) (by kernel_rfl) (by kernel_rfl) (fun _ _ _ h => h) (Or.inl ⟨by rfl, ?y21x47b⟩) hHeld ?r21x47b
      case y21x47b => (intro w hSw; (try dsimp only at hSw); go_simp; try with_reducible rfl)
      try simp only [Act.put, List.setIfInBounds_toArray, List.set_cons_zero, List.set_cons_succ]
      refine' wpAnyH_take (i := 22) (v := _) (by simp only [List.getElem?_toArray, List.getElem?_cons_succ, List.getElem?_cons_zero]; exact rfl) (by kernel_rfl) (by kernel_rfl) (by kernel_rfl) (fun _ _ _ h => h) (Or.inl ⟨by rfl, ?y22x48b⟩) hHeld ?r22x48b
      case y22x48b => (intro w hSw; (try dsimp only at hSw); go_simp; try with_reducible rfl)
      try simp only [Act.put, List.setIfInBounds_toArray, List.set_cons_zero, List.set_cons_succ]
      refine' wpAnyH_take (i := 23) (v := _) (by simp only [List.getElem?_toArray, List.getElem?_cons_succ, List.getElem?_cons_zero]; exact rfl) (by kernel_rfl) (by kernel_rfl) (by kernel_rfl) (fun _ _ _ h => h) (Or.inl ⟨by rfl, ?y23x49b⟩) hHeld ?r23x49b
      case y23x49b => (intro w hSw; (try dsimp only at hSw); go_simp; try with_reducible rfl)
      try simp only [Act.put, List.setIfInBounds_toArray, List.set_cons_zero, List.set_cons_succ]
      refine' wpAnyH_take (i := 24) (v := _) (by simp only [List.getElem?_toArray, List.getElem?_cons_succ, List.getElem?_cons_zero]; exact rfl) (by kernel_rfl) (by kernel_rfl) (by kernel_rfl) (fun _ _ _ h => h) (Or.inl ⟨by rfl, ?y24x50b⟩) hHeld ?r24x50b
      case y24x50b => (intro w hSw; (try dsimp only at hSw); go_simp; try with_reducible rfl)
      try simp only [Act.put, List.setIfInBounds_toArray, List.set_cons_zero, List.set_cons_succ]
      refine' wpAnyH_take (i := 25) (v := _) (by simp only [List.getElem?_toArray, List.getElem?_cons_succ, List.getElem?_cons_zero]; exact rfl) (by kernel_rfl) (by kernel_rfl) (by kernel_rfl) (fun _ _ _ h => h) (Or.inl ⟨by rfl, ?y25x51b⟩) hHeld ?r25x51b
      case y25x51b => (intro w hSw; (try dsimp only at hSw); go_simp; try with_reducible rfl)
      try simp only [Act.put, List.setIfInBounds_toArray, List.set_cons_zero, List.set_cons_succ]
      refine' wpAnyH_take (i := 26) (v := _) (by simp only [List.getElem?_toArray, List.getElem?_cons_succ, List.getElem?_cons_zero]; exact rfl) (by kernel_rfl) (by kernel_rfl) (by kernel_rfl) (fun _ _ _ h => h) (Or.inl ⟨by rfl, ?y26x52b⟩) hHeld ?r26x52b
      case y26x52b => (intro w hSw; (try dsimp only at hSw); go_simp; try with_reducible rfl)
      try simp only [Act.put, List.setIfInBounds_toArray, List.set_cons_zero, List.set_cons_succ]
      refine' wpAnyH_take (i := 27) (v := _) (by simp only [List.getElem?_toArray, List.getElem?_cons_succ, List.getElem?_cons_zero]; exact rfl) (by kernel_rfl) (by kernel_rfl) (by kernel_rfl) (fun _ _ _ h => h) (Or.inl ⟨by rfl, ?y27x53b⟩) hHeld ?r27x53b
      case y27x53b => (intro w hSw; (try dsimp only at hSw); go_simp; try with_reducible rfl)
      try simp only [Act.put, List.setIfInBounds_toArray, List.set_cons_zero, List.set_cons_succ]
      refine' wpAnyH_take (i := 28) (v := _) (by simp only [List.getElem?_toArray, List.getElem?_cons_succ, List.getElem?_cons_zero]; exact rfl) (by kernel_rfl) (by kernel_rfl) (by kernel_rfl) (fun _ _ _ h => h) (Or.inl ⟨by rfl, ?y28x54b⟩) hHeld ?r28x54b
      case y28x54b => (intro w hSw; (try dsimp only at hSw); go_simp; try with_reducible rfl)
      try simp only [Act.put, List.setIfInBounds_toArray, List.set_cons_zero, List.set_cons_succ]
      refine' wpAnyH_take (i := 29) (v := _) (by simp only [List.getElem?_toArray, List.getElem?_cons_succ, List.getElem?_cons_zero]; exact rfl) (by kernel_rfl) (by kernel_rfl) (by kernel_rfl) (fun _ _ _ h => h) (Or.inl ⟨by rfl, ?y29x55b⟩) hHeld ?r29x55b
      case y29x55b => (intro w hSw; (try dsimp only at hSw); go_simp; try with_reducible rfl)
      try simp only [Act.put, List.setIfInBounds_toArray, List.set_cons_zero, List.set_cons_succ]
      refine' wpAnyH_take (i := 30) (v := _) (by simp only [List.getElem?_toArray, List.getElem?_cons_succ, List.getElem?_cons_zero]; exact rfl) (by kernel_rfl) (by kernel_rfl) (by kernel_rfl) (fun _ _ _ h => h) (Or.inl ⟨by rfl, ?y30x56b⟩) hHeld ?r30x56b
      case y30x56b => (intro w hSw; (try dsimp only at hSw); go_simp; try with_reducible rfl)
      try simp only [Act.put, List.setIfInBounds_toArray, List.set_cons_zero, List.set_cons_succ]
      refine' wpAnyH_take (i := 31) (v := _) (by simp only [List.getElem?_toArray, List.getElem?_cons_succ, List.getElem?_cons_zero]; exact rfl) (by kernel_rfl) (by kernel_rfl) (by kernel_rfl) (fun _ _ _ h => h) (Or.inl ⟨by rfl, ?y31x57b⟩) hHeld ?r31x57b
      case y31x57b => (intro w hSw; (try dsimp only at hSw); go_simp; try with_reducible rfl)
      try simp only [Act.put, List.setIfInBounds_toArray, List.set_cons_zero, List.set_cons_succ]
      refine' wpAnyH_take (i := 32) (v := _) (by simp only [List.getElem?_toArray, List.getElem?_cons_succ, List.getElem?_cons_zero]; exact rfl) (by kernel_rfl) (by kernel_rfl) (by kernel_rfl) (fun _ _ _ h => h) (Or.inl ⟨by rfl, ?y32x58b⟩) hHeld ?r32x58b
      case y32x58b => (intro w hSw; (try dsimp only at hSw); go_simp; try with_reducible rfl)
      try simp only [Act.put, List.setIfInBounds_toArray, List.set_cons_zero, List.set_cons_succ]
      refine' wpAnyH_take (i := 33) (v := _) (by simp only [List.getElem?_toArray, List.getElem?_cons_succ, List.getElem?_cons_zero]; exact rfl) (by kernel_rfl) (by kernel_rfl) (by kernel_rfl) (fun _ _ _ h => h) (Or.inl ⟨by rfl, ?y33x59b⟩) hHeld ?r33x59b
      case y33x59b => (intro w hSw; (try dsimp only at hSw); go_simp; try with_reducible rfl)
      try simp only [Act.put, List.setIfInBounds_toArray, List.set_cons_zero, List.set_cons_succ]
      refine' wpAnyH_take (i := 34) (v := _) (by simp only [List.getElem?_toArray, List.getElem?_cons_succ, List.getElem?_cons_zero]; exact rfl) (by kernel_rfl) (by kernel_rfl) (by kernel_rfl) (fun _ _ _ h => h) (Or.inl ⟨by rfl, ?y34x60b⟩) hHeld ?r34x60b
      case y34x60b => (intro w hSw; (try dsimp only at hSw); go_simp; try with_reducible rfl)
      try simp only [Act.put, List.setIfInBounds_toArray, List.set_cons_zero, List.set_cons_succ]
      refine wpAnyH_done (by kernel_rfl) ?_ _
      refine NoPanic.normal ?_
      clear q6
      obtain ⟨qL, qG, qS, qR, -, -, -, -, -, -, -, -, qB⟩ := hHeld
      have Lh11 := Lib.hid qL
      have Gh11 := Lib.hid qG
      have Sh11 := Lib.hid qS
      have Rh11 := Lib.hid qR
      have HB11 := Lib.hid qB
      clear qL qG qS qR qB Lh10 Gh10 Sh10 Rh10 HB10
      have d0 := rowN Gh11.out 0 (.int .i64 p) rfl
      have d1 := rowN Gh11.out 1 (.int .i64 t) rfl
      go_upto_region 12 with fail
      clear d0 d1
      obtain ⟨far, hfar⟩ : ∃ f, f = max (t - p) (p - t) := ⟨_, rfl⟩
      rw [← hfar]
      have f1 : 0 ≤ far := by omega
      have f2 : far ≤ 64 := by omega
      obtain ⟨q, hq⟩ : ∃ q, q = mv l.speed t p := ⟨_, rfl⟩
      have hqi := mv_in (s := l.speed) (P := l.positions) m3 HPI.out HTB.out
      rw [← hq] at hqi
      have q1 : 0 ≤ q := hqi.1
      have q2 : q ≤ 64 := by have := hqi.2; omega
      have NF : (max (t - q) (q - t) != far - min far l.speed) = false := by rw [hq, mv_near m3, ← hfar]; simp
      have HI0 : Hid (InvM l.speed p t far 0 q) := Lib.hid (by rw [hq, hfar]; exact inv_start m3)
      have HQI := Lib.hid hqi
      have HFar := Lib.hid hfar
      have HMV : Hid (∀ x : Int, 0 ≤ x ∧ x ≤ l.positions → ∀ W, Calls Try.prog 13 #[.agg #[.string l.name, .int .i64 l.kind, .int .i64 l.src, .int .i64 l.dst, v1, v2, v3, .int .i64 l.positions, .int .i64 l.speed, .int .i64 l.leak, .int .i64 l.crest, .int .i64 l.num, .int .i64 l.den, .int .i64 l.prime, .int .i64 l.brk, .int .i64 l.backNum, .int .i64 l.backDen, .int .i64 l.delay], .agg #[.int .i64 x, .int .i64 t, .bool false, .bool o]] W (RetG ⟨mv l.speed t x, t, false, o⟩ W)) := Lib.hid fun x hx W => by
          have h := move_any l v1 v2 v3 ⟨x, t, false, o⟩ W HSP.out (show I64 x from ⟨by omega, by omega⟩) (show I64 t from ⟨by omega, by omega⟩)
          rw [move_mv m3 m4 m2 hx HTB.out] at h
          exact h
      have HMQ : Hid (∀ W, Calls Try.prog 13 #[.agg #[.string l.name, .int .i64 l.kind, .int .i64 l.src, .int .i64 l.dst, v1, v2, v3, .int .i64 l.positions, .int .i64 l.speed, .int .i64 l.leak, .int .i64 l.crest, .int .i64 l.num, .int .i64 l.den, .int .i64 l.prime, .int .i64 l.brk, .int .i64 l.backNum, .int .i64 l.backDen, .int .i64 l.delay], .agg #[.int .i64 p, .int .i64 t, .bool false, .bool o]] W (RetG ⟨q, t, false, o⟩ W)) := Lib.hid fun W => by have h := HMV.out p HPI.out W; rw [← hq] at h; exact h
      clear hfar hq hqi
      go_wp2_with (first | (refine wpList_load_rowW (by first | rfl | (go_simp; done) | go_simp) 26 _ rfl _ rfl 26 _ _ _ Lh11.out undLk rfl infoLk ?_) | (refine wpList_load_rowW (by first | rfl | (go_simp; done) | go_simp) 28 _ rfl _ rfl 28 _ _ _ Rh11.out undGt rfl infoGt ?_))
      refine (HMQ.out _).mono ?_
      rintro e w10 ⟨rfl, hb⟩
      have HB12 := Lib.hid (HB11.out.trans (hb.mono HB11.out.size))
      have Lh12 := Lib.hid (blk_below Lh11.out hb (blk_lt Lh11.out))
      have Gh12 := Lib.hid (blk_below Gh11.out hb (blk_lt Gh11.out))
      have Sh12 := Lib.hid (blk_below Sh11.out hb (blk_lt Sh11.out))
      have Rh12 := Lib.hid (blk_below Rh11.out hb (blk_lt Rh11.out))
      clear HB11 Lh11 Gh11 Sh11 Rh11
      clear hb
      have HbH := Lib.hid (blk_lt Gh12.out)
      go_upto_region 13 with fail
      have HB13 := Lib.hid (HB12.out.alloc HB12.out.size (.cells #[.int .i64 q, .int .i64 t, .bool false, .bool o] 28 (0, 0)))
      have Hh13 := Lib.hid (heap_alloc_new w10 (.cells #[.int .i64 q, .int .i64 t, .bool false, .bool o] 28 (0, 0)))
      have Lh13 := Lib.hid (blk_below Lh12.out ((Below.refl w10.heap.size w10).alloc (Nat.le_refl _) (.cells #[.int .i64 q, .int .i64 t, .bool false, .bool o] 28 (0, 0))) (blk_lt Lh12.out))
      have Gh13 := Lib.hid (blk_below Gh12.out ((Below.refl w10.heap.size w10).alloc (Nat.le_refl _) (.cells #[.int .i64 q, .int .i64 t, .bool false, .bool o] 28 (0, 0))) (blk_lt Gh12.out))
      have Sh13 := Lib.hid (blk_below Sh12.out ((Below.refl w10.heap.size w10).alloc (Nat.le_refl _) (.cells #[.int .i64 q, .int .i64 t, .bool false, .bool o] 28 (0, 0))) (blk_lt Sh12.out))
      have Rh13 := Lib.hid (blk_below Rh12.out ((Below.refl w10.heap.size w10).alloc (Nat.le_refl _) (.cells #[.int .i64 q, .int .i64 t, .bool false, .bool o] 28 (0, 0))) (blk_lt Rh12.out))
      clear HB12 Lh12 Gh12 Sh12 Rh12
      generalize w10.heap.size = bH at *
      generalize w10.alloc (.cells #[.int .i64 q, .int .i64 t, .bool false, .bool o] 28 (0, 0)) = w11 at *
      have d0 := rowN Hh13.out 0 (.int .i64 q) rfl
      have d1 := rowN Hh13.out 1 (.int .i64 t) rfl
      go_upto_region 14 with fail
      clear d0 d1
      go_wp2_with (first | (refine wpList_load_rowW (by first | rfl | (go_simp; done) | go_simp) 26 _ rfl _ rfl 26 _ _ _ Lh13.out undLk rfl infoLk ?_) | (refine wpList_load_rowW (by first | rfl | (go_simp; done) | go_simp) 28 _ rfl _ rfl 28 _ _ _ Hh13.out undGt rfl infoGt ?_))
      refine (HV.out _ _ _ _ HQI.out HTB.out _).mono ?_
      rintro e w12 ⟨rfl, hb⟩
      have HB14 := Lib.hid (HB13.out.trans (hb.mono HB13.out.size))
      have Lh14 := Lib.hid (blk_below Lh13.out hb (blk_lt Lh13.out))
      have Gh14 := Lib.hid (blk_below Gh13.out hb (blk_lt Gh13.out))
      have Sh14 := Lib.hid (blk_below Sh13.out hb (blk_lt Sh13.out))
      have Rh14 := Lib.hid (blk_below Rh13.out hb (blk_lt Rh13.out))
      have Hh14 := Lib.hid (blk_below Hh13.out hb (blk_lt Hh13.out))
      clear HB13 Lh13 Gh13 Sh13 Rh13 Hh13
      clear hb
      have d1 := rowN Hh14.out 1 (.int .i64 t) rfl
      have d2 := rowN Hh14.out 2 (.bool false) rfl
      have d3 := rowN Hh14.out 3 (.bool o) rfl
      have g1 := rowN Gh14.out 1 (.int .i64 t) rfl
      have g3 := rowN Gh14.out 3 (.bool o) rfl
      have c8 := rowN Lh14.out 8 (.int .i64 l.speed) rfl
      go_wp2_with fail
      clear d1 d2 d3 g1 g3 c8 NF
      have hbH := HbH.out
      go_loopw [13] (fun nv wr => ∃ (i : Nat) (x : Int), (i : Int) ≤ far ∧ nv = .int .i64 i ∧ 0 ≤ x ∧ x ≤ l.positions ∧ InvM l.speed p t far i x ∧ wr.heap[w.heap.size]? = some (.cells #[.string l.name, .int .i64 l.kind, .int .i64 l.src, .int .i64 l.dst, v1, v2, v3, .int .i64 l.positions, .int .i64 l.speed, .int .i64 l.leak, .int .i64 l.crest, .int .i64 l.num, .int .i64 l.den, .int .i64 l.prime, .int .i64 l.brk, .int .i64 l.backNum, .int .i64 l.backDen, .int .i64 l.delay] 26 (0, 0)) ∧ wr.heap[w.heap.size + 1]? = some (.cells #[.int .i64 p, .int .i64 t, .bool s, .bool o] 28 (0, 0)) ∧ wr.heap[bH]? = some (.cells #[.int .i64 x, .int .i64 t, .bool false, .bool o] 28 (0, 0)) ∧ Below w.heap.size w wr) (fun nv _ => (far - intOf nv).toNat)
      case atStart => exact ⟨0, q, f1, rfl, HQI.out.1, HQI.out.2, HI0.out, Lh14.out, Gh14.out, Hh14.out, HB14.out⟩
      case round =>
        obtain ⟨i, x, hi, rfl, x1, x2, hinv, qL, qG, qH, qB⟩ := hrel
        have Lr := Lib.hid qL
        have Gr := Lib.hid qG
        have Hr := Lib.hid qH
        have Br := Lib.hid qB
        have HIV := Lib.hid hinv
        clear qL qG qH qB hinv Lh14 Gh14 Hh14 Sh14 Rh14 HB14 HI0
        by_cases hlt : (i : Int) < far
        · go_wp2_with (first | (refine wpList_load_rowW (by rfl) 26 _ rfl _ rfl 26 _ _ _ Lr.out undLk rfl infoLk ?_) | (refine wpList_load_rowW (by rfl) 28 _ rfl _ rfl 28 _ _ _ Hr.out undGt rfl infoGt ?_))
          refine (HMV.out x ⟨x1, x2⟩ _).mono ?_
          rintro e w2 ⟨rfl, hb⟩
          have HM1 := Lib.hid (mv_in (s := l.speed) (P := l.positions) m3 ⟨x1, x2⟩ HTB.out)
          have HIN := Lib.hid (inv_next m3 HIV.out)
          generalize mv l.speed t x = y at *
          have L2 := Lib.hid (blk_below Lr.out hb (blk_lt Lr.out))
          have G2 := Lib.hid (blk_below Gr.out hb (blk_lt Gr.out))
          have H2 := Lib.hid (blk_below Hr.out hb (blk_lt Hr.out))
          have B2 := Lib.hid (Br.out.trans (hb.mono Br.out.size))
          clear hb
          go_wp2_with (refine wpList_store_row rfl 28 _ _ rfl bH #[.int .i64 y, .int .i64 t, .bool false, .bool o] rfl rfl 28 _ H2.out infoGt rfl (by simp [Value.oneCell']) ?_)
          go_roundw
          case rel => exact ⟨i + 1, y, by omega, by go_num, HM1.out.1, HM1.out.2, HIN.out, (setRow_other _ _ _ _ (by omega)).trans L2.out, (setRow_other _ _ _ _ (by omega)).trans G2.out, setRow_heap _ _ _ _ _ _ H2.out, below_setRow B2.out (by omega) _⟩
          case measure => simp [intOf]; omega
        · have hie : (i : Int) = far := by omega
          have e0 := rowN Hr.out 0 (.int .i64 x) rfl
          have e1 := rowN Gr.out 1 (.int .i64 t) rfl
          have e2 := rowN Gr.out 0 (.int .i64 p) rfl
          have e8 := rowN Lr.out 8 (.int .i64 l.speed) rfl
          have HEND := Lib.hid (inv_end hie HIV.out)
          clear hie
          by_cases hs : l.speed = 0
          · obtain rfl : x = p := HEND.out.1 hs
            have b1 : (l.speed == 0) = true := by rw [hs]; rfl
            have b2 : decide (0 < l.speed) = false := decide_eq_false (by omega)
            clear hs
            go_wp2_with fail
            go_ret
            exact ⟨rfl, Br.out⟩
          · obtain rfl : x = t := HEND.out.2 (by omega)
            have b1 : (l.speed == 0) = false := beq_eq_false_iff_ne.2 hs
            have b2 : decide (0 < l.speed) = true := decide_eq_true (by omega)
            clear hs
            go_wp2_with fail
            go_ret
            exact ⟨rfl, Br.out⟩
end Go.Proofs.Ytkoobkcmmfdlhaa
