/- bournelaw45.ClaimTells returns true. -/
import Derived.Test.YtgjklfddoechpaaGreatDoorCShort
import Derived.Test.YtgjklfddoechpaaGreatDoorCRefB
import Derived.Test.YtgjklfddoechpaaGreatDoorCRefC
import Derived.Outline
namespace Go.Proofs.YtgjklfddoechpaaGreatDoor
open Go.RowKit
theorem owns_larg {w : World} {base n : Nat} {v : Value} {l : List CV} {e : TypeId} (h : w.ownsRow base e 8 v n (l.flatMap cellsC)) (hn : l.length = n) (hx : ∀ x ∈ l, COk x ∧ x.prev.size ≤ maxLen) : LArg RC 8 v l w := by
  rcases h.2 with ⟨rfl, h2⟩ | ⟨g, cap, cur, rfl, hg, hh, hnc, hcm, hcs, htk⟩
  · have hl := h.1
    have h0 : n = 0 := by
      rcases l with _ | ⟨y, l⟩
      · exact hn.symm
      · rw [h2] at hl
        simp at hl
        omega
    have : l = [] := List.eq_nil_of_length_eq_zero (by omega)
    subst this
    exact ⟨none, 0, rfl, Nat.le_refl _, Nat.zero_le _, fun j x hj => by simp at hj⟩
  · refine ⟨some ⟨g, 0, none⟩, cap, by rw [hn], by omega, hcm, fun j x hj => ⟨g, 0, cellsC x, rfl, blk_lt hh, rfl, ?_, rfl, hx x (List.mem_of_getElem? hj)⟩⟩
    intro i u hi
    have h1 := flat_get l j x hj i u hi
    rw [← htk, List.getElem?_take] at h1
    split at h1
    · rw [Nat.zero_add]
      rw [cell_of_row _ _ _ _ _ _ hh, ← Array.getElem?_toList]
      exact h1
    · cases h1
theorem isCh_same {ps : List Int} {l : List CV} {n m : Nat} (h : IsCh ps l n) (h2 : IsCh ps l m) : n = m := by
  obtain ⟨a1, a2, a3⟩ := h
  obtain ⟨b1, b2, b3⟩ := h2
  rcases Nat.lt_trichotomy n m with hlt | rfl | hlt
  · have := b2 n hlt
    rcases a3 with rfl | a3
    · omega
    · rw [this] at a3; cases a3
  · rfl
  · have := a2 m hlt
    rcases b3 with rfl | b3
    · omega
    · rw [this] at b3; cases b3
structure TellsF (x y : Int) (c : CV) (p : PV) (s : ByteArray) (z : CV) (u : PV) (one two v1 v2 : Bool) (A B D E : ByteArray) (g1 g2 t1 t2 : Int) : Prop where
  rd : ∀ w, Calls Tryz.prog 8 #[.string s] w fun e w' => e = .returned (.tuple #[.agg #[.int .i64 z.office, .int .i64 z.hour, .int .i64 z.inn, .int .i64 z.out, .int .i64 z.store, .string z.prev, .int .i64 z.e, .int .i64 z.s], .bool one]) ∧ Below w.heap.size w w'
  rrd : ∀ w, Calls Tryz.prog 9 #[.string s] w fun e w' => e = .returned (.tuple #[.agg #[.int .i64 z.office, .int .i64 z.hour, .int .i64 z.inn, .int .i64 z.out, .int .i64 z.store, .string z.prev, .int .i64 z.e, .int .i64 z.s], .bool one]) ∧ Below w.heap.size w w'
  pr : ∀ w, Calls Tryz.prog 10 #[.string s] w fun e w' => e = .returned (.tuple #[.agg #[.int .i64 u.office, .int .i64 u.since, .int .i64 u.till, .int .i64 u.litres, .int .i64 u.e, .int .i64 u.s], .bool two]) ∧ Below w.heap.size w w'
  rpr : ∀ w, Calls Tryz.prog 11 #[.string s] w fun e w' => e = .returned (.tuple #[.agg #[.int .i64 u.office, .int .i64 u.since, .int .i64 u.till, .int .i64 u.litres, .int .i64 u.e, .int .i64 u.s], .bool two]) ∧ Below w.heap.size w w'
  co : ∀ w, MLen w → Calls Tryz.prog 12 #[.agg #[.int .i64 c.office, .int .i64 c.hour, .int .i64 c.inn, .int .i64 c.out, .int .i64 c.store, .string c.prev, .int .i64 c.e, .int .i64 c.s]] w fun e w' => e = .returned (.string A) ∧ Below w.heap.size w w'
  rco : ∀ w, Calls Tryz.prog 13 #[.agg #[.int .i64 c.office, .int .i64 c.hour, .int .i64 c.inn, .int .i64 c.out, .int .i64 c.store, .string c.prev, .int .i64 c.e, .int .i64 c.s]] w fun e w' => e = .returned (.string A) ∧ Below w.heap.size w w'
  by_ : ∀ w, MLen w → Calls Tryz.prog 14 #[.agg #[.int .i64 c.office, .int .i64 c.hour, .int .i64 c.inn, .int .i64 c.out, .int .i64 c.store, .string c.prev, .int .i64 c.e, .int .i64 c.s]] w fun e w' => e = .returned (.string B) ∧ Below w.heap.size w w'
  rby_ : ∀ w, Calls Tryz.prog 15 #[.agg #[.int .i64 c.office, .int .i64 c.hour, .int .i64 c.inn, .int .i64 c.out, .int .i64 c.store, .string c.prev, .int .i64 c.e, .int .i64 c.s]] w fun e w' => e = .returned (.string B) ∧ Below w.heap.size w w'
  dg : ∀ w, Glob w → MLen w → Calls Tryz.prog 16 #[.agg #[.int .i64 c.office, .int .i64 c.hour, .int .i64 c.inn, .int .i64 c.out, .int .i64 c.store, .string c.prev, .int .i64 c.e, .int .i64 c.s]] w fun e w' => e = .returned (.string D) ∧ Below w.heap.size w w'
  rdg : ∀ w, Calls Tryz.prog 17 #[.agg #[.int .i64 c.office, .int .i64 c.hour, .int .i64 c.inn, .int .i64 c.out, .int .i64 c.store, .string c.prev, .int .i64 c.e, .int .i64 c.s]] w fun e w' => e = .returned (.string D) ∧ Below w.heap.size w w'
  pb : ∀ w, Calls Tryz.prog 18 #[.agg #[.int .i64 p.office, .int .i64 p.since, .int .i64 p.till, .int .i64 p.litres, .int .i64 p.e, .int .i64 p.s]] w fun e w' => e = .returned (.string E) ∧ Below w.heap.size w w'
  rpb : ∀ w, Calls Tryz.prog 19 #[.agg #[.int .i64 p.office, .int .i64 p.since, .int .i64 p.till, .int .i64 p.litres, .int .i64 p.e, .int .i64 p.s]] w fun e w' => e = .returned (.string E) ∧ Below w.heap.size w w'
  sg : ∀ w, Glob w → MLen w → Calls Tryz.prog 20 #[.agg #[.int .i64 x, .int .i64 y], .agg #[.int .i64 c.office, .int .i64 c.hour, .int .i64 c.inn, .int .i64 c.out, .int .i64 c.store, .string c.prev, .int .i64 c.e, .int .i64 c.s]] w fun e w' => e = .returned (.agg #[.int .i64 c.office, .int .i64 c.hour, .int .i64 c.inn, .int .i64 c.out, .int .i64 c.store, .string c.prev, .int .i64 g1, .int .i64 g2]) ∧ Below w.heap.size w w'
  rsg : ∀ w, Calls Tryz.prog 21 #[.agg #[.int .i64 x, .int .i64 y], .agg #[.int .i64 c.office, .int .i64 c.hour, .int .i64 c.inn, .int .i64 c.out, .int .i64 c.store, .string c.prev, .int .i64 c.e, .int .i64 c.s]] w fun e w' => e = .returned (.agg #[.int .i64 c.office, .int .i64 c.hour, .int .i64 c.inn, .int .i64 c.out, .int .i64 c.store, .string c.prev, .int .i64 g1, .int .i64 g2]) ∧ Below w.heap.size w w'
  vf : ∀ w, Glob w → MLen w → Calls Tryz.prog 22 #[.int .i64 y, .agg #[.int .i64 c.office, .int .i64 c.hour, .int .i64 c.inn, .int .i64 c.out, .int .i64 c.store, .string c.prev, .int .i64 c.e, .int .i64 c.s]] w fun e w' => e = .returned (.bool v1) ∧ Below w.heap.size w w'
  rvf : ∀ w, Calls Tryz.prog 23 #[.int .i64 y, .agg #[.int .i64 c.office, .int .i64 c.hour, .int .i64 c.inn, .int .i64 c.out, .int .i64 c.store, .string c.prev, .int .i64 c.e, .int .i64 c.s]] w fun e w' => e = .returned (.bool v1) ∧ Below w.heap.size w w'
  ps : ∀ w, Glob w → MLen w → Calls Tryz.prog 24 #[.agg #[.int .i64 x, .int .i64 y], .agg #[.int .i64 p.office, .int .i64 p.since, .int .i64 p.till, .int .i64 p.litres, .int .i64 p.e, .int .i64 p.s]] w fun e w' => e = .returned (.agg #[.int .i64 p.office, .int .i64 p.since, .int .i64 p.till, .int .i64 p.litres, .int .i64 t1, .int .i64 t2]) ∧ Below w.heap.size w w'
  rps : ∀ w, Calls Tryz.prog 25 #[.agg #[.int .i64 x, .int .i64 y], .agg #[.int .i64 p.office, .int .i64 p.since, .int .i64 p.till, .int .i64 p.litres, .int .i64 p.e, .int .i64 p.s]] w fun e w' => e = .returned (.agg #[.int .i64 p.office, .int .i64 p.since, .int .i64 p.till, .int .i64 p.litres, .int .i64 t1, .int .i64 t2]) ∧ Below w.heap.size w w'
  pv : ∀ w, Glob w → MLen w → Calls Tryz.prog 26 #[.int .i64 y, .agg #[.int .i64 p.office, .int .i64 p.since, .int .i64 p.till, .int .i64 p.litres, .int .i64 p.e, .int .i64 p.s]] w fun e w' => e = .returned (.bool v2) ∧ Below w.heap.size w w'
  rpv : ∀ w, Calls Tryz.prog 27 #[.int .i64 y, .agg #[.int .i64 p.office, .int .i64 p.since, .int .i64 p.till, .int .i64 p.litres, .int .i64 p.e, .int .i64 p.s]] w fun e w' => e = .returned (.bool v2) ∧ Below w.heap.size w w'
theorem tellsF (x y : Int) (c : CV) (p : PV) (s : ByteArray) (hy : I64 y) (hc : COk c) (hp : POk p) (hcs : c.prev.size ≤ 100) (hs : s.size ≤ 300) :
    ∃ z u one two v1 v2 A B D E g1 g2 t1 t2, TellsF x y c p s z u one two v1 v2 A B D E g1 g2 t1 t2 := by
  refine ⟨(readC s.data.toList).1, (readP s.data.toList).1, (readC s.data.toList).2, (readP s.data.toList).2, decide (VouchedC y c), decide (VouchedP y p), ⟨(coreC c).toArray⟩, ⟨(bytesC c).toArray⟩, ⟨(digC c).toArray⟩, ⟨(bytesP p).toArray⟩, (signR x y ctxC (coreC c)).1, (signR x y ctxC (coreC c)).2, (signR x y ctxP (coreP p)).1, (signR x y ctxP (coreP p)).2, ?_⟩
  exact ⟨fun w => readC_any s w (by omega), fun w => rreadC_any s w (by omega), fun w => readP_any s w (by omega), fun w => rreadP_any s w (by omega),
    fun w hm => coreC_any c w hc (by omega) hm, fun w => rcoreC_any c w hc (by omega), fun w hm => bytesC_any c w hc (by omega) hm, fun w => rbytesC_any c w hc (by omega),
    fun w hg hm => digestC_any c w hc (by omega) hg hm, fun w => rdigestC_any c w hc (by omega), fun w => bytesP_any p w hp, fun w => rbytesP_any p w hp,
    fun w hg hm => signC_any x y c w hc (by omega) hg hm, fun w => rsignC_any x y c w hc (by omega), fun w hg hm => verifyC_any y c w hy hc (by omega) hg hm, fun w => rverifyC_any y c w hy hc (by omega),
    fun w hg hm => signP_any x y p w hp hg hm, fun w => rsignP_any x y p w hp, fun w hg hm => verifyP_any y p w hy hp hg hm, fun w => rverifyP_any y p w hy hp⟩
theorem tells_step {w cur w' : World} {k0 k1 k2 : Nat} {A0 A1 A2 : Obj} {v0 v1 v2 v3 v4 v5 v6 v7 v8 v9 v10 v11 v12 v13 v14 v15 : Value} (h : cur.heap[k0]? = some A0 ∧ cur.heap[k1]? = some A1 ∧ cur.heap[k2]? = some A2 ∧ cur.cell? ⟨k0, 0, none⟩ = some v0 ∧ cur.cell? ⟨k0, 1, none⟩ = some v1 ∧ cur.cell? ⟨k0, 2, none⟩ = some v2 ∧ cur.cell? ⟨k0, 3, none⟩ = some v3 ∧ cur.cell? ⟨k0, 4, none⟩ = some v4 ∧ cur.cell? ⟨k0, 5, none⟩ = some v5 ∧ cur.cell? ⟨k0, 6, none⟩ = some v6 ∧ cur.cell? ⟨k0, 7, none⟩ = some v7 ∧ cur.cell? ⟨k1, 0, none⟩ = some v8 ∧ cur.cell? ⟨k1, 1, none⟩ = some v9 ∧ cur.cell? ⟨k1, 2, none⟩ = some v10 ∧ cur.cell? ⟨k1, 3, none⟩ = some v11 ∧ cur.cell? ⟨k1, 4, none⟩ = some v12 ∧ cur.cell? ⟨k1, 5, none⟩ = some v13 ∧ cur.cell? ⟨k2, 0, none⟩ = some v14 ∧ cur.cell? ⟨k2, 1, none⟩ = some v15 ∧ Below w.heap.size w cur) (hb : Below cur.heap.size cur w') : w'.heap[k0]? = some A0 ∧ w'.heap[k1]? = some A1 ∧ w'.heap[k2]? = some A2 ∧ w'.cell? ⟨k0, 0, none⟩ = some v0 ∧ w'.cell? ⟨k0, 1, none⟩ = some v1 ∧ w'.cell? ⟨k0, 2, none⟩ = some v2 ∧ w'.cell? ⟨k0, 3, none⟩ = some v3 ∧ w'.cell? ⟨k0, 4, none⟩ = some v4 ∧ w'.cell? ⟨k0, 5, none⟩ = some v5 ∧ w'.cell? ⟨k0, 6, none⟩ = some v6 ∧ w'.cell? ⟨k0, 7, none⟩ = some v7 ∧ w'.cell? ⟨k1, 0, none⟩ = some v8 ∧ w'.cell? ⟨k1, 1, none⟩ = some v9 ∧ w'.cell? ⟨k1, 2, none⟩ = some v10 ∧ w'.cell? ⟨k1, 3, none⟩ = some v11 ∧ w'.cell? ⟨k1, 4, none⟩ = some v12 ∧ w'.cell? ⟨k1, 5, none⟩ = some v13 ∧ w'.cell? ⟨k2, 0, none⟩ = some v14 ∧ w'.cell? ⟨k2, 1, none⟩ = some v15 ∧ Below w.heap.size w w' := by
  obtain ⟨a0, a1, a2, c0, c1, c2, c3, c4, c5, c6, c7, c8, c9, c10, c11, c12, c13, c14, c15, d⟩ := h
  exact ⟨blk_below a0 hb (blk_lt a0), blk_below a1 hb (blk_lt a1), blk_below a2 hb (blk_lt a2), (hb.cell (p := ⟨_, 0, none⟩) (blk_lt a0)).trans c0, (hb.cell (p := ⟨_, 1, none⟩) (blk_lt a0)).trans c1, (hb.cell (p := ⟨_, 2, none⟩) (blk_lt a0)).trans c2, (hb.cell (p := ⟨_, 3, none⟩) (blk_lt a0)).trans c3, (hb.cell (p := ⟨_, 4, none⟩) (blk_lt a0)).trans c4, (hb.cell (p := ⟨_, 5, none⟩) (blk_lt a0)).trans c5, (hb.cell (p := ⟨_, 6, none⟩) (blk_lt a0)).trans c6, (hb.cell (p := ⟨_, 7, none⟩) (blk_lt a0)).trans c7, (hb.cell (p := ⟨_, 0, none⟩) (blk_lt a1)).trans c8, (hb.cell (p := ⟨_, 1, none⟩) (blk_lt a1)).trans c9, (hb.cell (p := ⟨_, 2, none⟩) (blk_lt a1)).trans c10, (hb.cell (p := ⟨_, 3, none⟩) (blk_lt a1)).trans c11, (hb.cell (p := ⟨_, 4, none⟩) (blk_lt a1)).trans c12, (hb.cell (p := ⟨_, 5, none⟩) (blk_lt a1)).trans c13, (hb.cell (p := ⟨_, 0, none⟩) (blk_lt a2)).trans c14, (hb.cell (p := ⟨_, 1, none⟩) (blk_lt a2)).trans c15, d.trans (hb.mono d.size)⟩
theorem tells_stepN {w cur : World} {k0 k1 k2 : Nat} {A0 A1 A2 : Obj} {v0 v1 v2 v3 v4 v5 v6 v7 v8 v9 v10 v11 v12 v13 v14 v15 : Value} (h : cur.heap[k0]? = some A0 ∧ cur.heap[k1]? = some A1 ∧ cur.heap[k2]? = some A2 ∧ cur.cell? ⟨k0, 0, none⟩ = some v0 ∧ cur.cell? ⟨k0, 1, none⟩ = some v1 ∧ cur.cell? ⟨k0, 2, none⟩ = some v2 ∧ cur.cell? ⟨k0, 3, none⟩ = some v3 ∧ cur.cell? ⟨k0, 4, none⟩ = some v4 ∧ cur.cell? ⟨k0, 5, none⟩ = some v5 ∧ cur.cell? ⟨k0, 6, none⟩ = some v6 ∧ cur.cell? ⟨k0, 7, none⟩ = some v7 ∧ cur.cell? ⟨k1, 0, none⟩ = some v8 ∧ cur.cell? ⟨k1, 1, none⟩ = some v9 ∧ cur.cell? ⟨k1, 2, none⟩ = some v10 ∧ cur.cell? ⟨k1, 3, none⟩ = some v11 ∧ cur.cell? ⟨k1, 4, none⟩ = some v12 ∧ cur.cell? ⟨k1, 5, none⟩ = some v13 ∧ cur.cell? ⟨k2, 0, none⟩ = some v14 ∧ cur.cell? ⟨k2, 1, none⟩ = some v15 ∧ Below w.heap.size w cur) (n : Nat) : (cur.drewN n).heap[k0]? = some A0 ∧ (cur.drewN n).heap[k1]? = some A1 ∧ (cur.drewN n).heap[k2]? = some A2 ∧ (cur.drewN n).cell? ⟨k0, 0, none⟩ = some v0 ∧ (cur.drewN n).cell? ⟨k0, 1, none⟩ = some v1 ∧ (cur.drewN n).cell? ⟨k0, 2, none⟩ = some v2 ∧ (cur.drewN n).cell? ⟨k0, 3, none⟩ = some v3 ∧ (cur.drewN n).cell? ⟨k0, 4, none⟩ = some v4 ∧ (cur.drewN n).cell? ⟨k0, 5, none⟩ = some v5 ∧ (cur.drewN n).cell? ⟨k0, 6, none⟩ = some v6 ∧ (cur.drewN n).cell? ⟨k0, 7, none⟩ = some v7 ∧ (cur.drewN n).cell? ⟨k1, 0, none⟩ = some v8 ∧ (cur.drewN n).cell? ⟨k1, 1, none⟩ = some v9 ∧ (cur.drewN n).cell? ⟨k1, 2, none⟩ = some v10 ∧ (cur.drewN n).cell? ⟨k1, 3, none⟩ = some v11 ∧ (cur.drewN n).cell? ⟨k1, 4, none⟩ = some v12 ∧ (cur.drewN n).cell? ⟨k1, 5, none⟩ = some v13 ∧ (cur.drewN n).cell? ⟨k2, 0, none⟩ = some v14 ∧ (cur.drewN n).cell? ⟨k2, 1, none⟩ = some v15 ∧ Below w.heap.size w (cur.drewN n) := by
  obtain ⟨a0, a1, a2, c0, c1, c2, c3, c4, c5, c6, c7, c8, c9, c10, c11, c12, c13, c14, c15, d⟩ := h
  exact ⟨a0, a1, a2, c0, c1, c2, c3, c4, c5, c6, c7, c8, c9, c10, c11, c12, c13, c14, c15, below_drewN d⟩
theorem tells_stepA {w cur : World} {k0 k1 k2 : Nat} {A0 A1 A2 : Obj} {v0 v1 v2 v3 v4 v5 v6 v7 v8 v9 v10 v11 v12 v13 v14 v15 : Value} {o : Obj} (h : cur.heap[k0]? = some A0 ∧ cur.heap[k1]? = some A1 ∧ cur.heap[k2]? = some A2 ∧ cur.cell? ⟨k0, 0, none⟩ = some v0 ∧ cur.cell? ⟨k0, 1, none⟩ = some v1 ∧ cur.cell? ⟨k0, 2, none⟩ = some v2 ∧ cur.cell? ⟨k0, 3, none⟩ = some v3 ∧ cur.cell? ⟨k0, 4, none⟩ = some v4 ∧ cur.cell? ⟨k0, 5, none⟩ = some v5 ∧ cur.cell? ⟨k0, 6, none⟩ = some v6 ∧ cur.cell? ⟨k0, 7, none⟩ = some v7 ∧ cur.cell? ⟨k1, 0, none⟩ = some v8 ∧ cur.cell? ⟨k1, 1, none⟩ = some v9 ∧ cur.cell? ⟨k1, 2, none⟩ = some v10 ∧ cur.cell? ⟨k1, 3, none⟩ = some v11 ∧ cur.cell? ⟨k1, 4, none⟩ = some v12 ∧ cur.cell? ⟨k1, 5, none⟩ = some v13 ∧ cur.cell? ⟨k2, 0, none⟩ = some v14 ∧ cur.cell? ⟨k2, 1, none⟩ = some v15 ∧ Below w.heap.size w cur) : (cur.alloc o).heap[k0]? = some A0 ∧ (cur.alloc o).heap[k1]? = some A1 ∧ (cur.alloc o).heap[k2]? = some A2 ∧ (cur.alloc o).cell? ⟨k0, 0, none⟩ = some v0 ∧ (cur.alloc o).cell? ⟨k0, 1, none⟩ = some v1 ∧ (cur.alloc o).cell? ⟨k0, 2, none⟩ = some v2 ∧ (cur.alloc o).cell? ⟨k0, 3, none⟩ = some v3 ∧ (cur.alloc o).cell? ⟨k0, 4, none⟩ = some v4 ∧ (cur.alloc o).cell? ⟨k0, 5, none⟩ = some v5 ∧ (cur.alloc o).cell? ⟨k0, 6, none⟩ = some v6 ∧ (cur.alloc o).cell? ⟨k0, 7, none⟩ = some v7 ∧ (cur.alloc o).cell? ⟨k1, 0, none⟩ = some v8 ∧ (cur.alloc o).cell? ⟨k1, 1, none⟩ = some v9 ∧ (cur.alloc o).cell? ⟨k1, 2, none⟩ = some v10 ∧ (cur.alloc o).cell? ⟨k1, 3, none⟩ = some v11 ∧ (cur.alloc o).cell? ⟨k1, 4, none⟩ = some v12 ∧ (cur.alloc o).cell? ⟨k1, 5, none⟩ = some v13 ∧ (cur.alloc o).cell? ⟨k2, 0, none⟩ = some v14 ∧ (cur.alloc o).cell? ⟨k2, 1, none⟩ = some v15 ∧ Below w.heap.size w (cur.alloc o) := tells_step h ((Below.refl _ _).alloc (Nat.le_refl _) o)
theorem tells_stepS {w cur : World} {b j : Nat} {x : Value} {k0 k1 k2 : Nat} {A0 A1 A2 : Obj} {v0 v1 v2 v3 v4 v5 v6 v7 v8 v9 v10 v11 v12 v13 v14 v15 : Value} (h : cur.heap[k0]? = some A0 ∧ cur.heap[k1]? = some A1 ∧ cur.heap[k2]? = some A2 ∧ cur.cell? ⟨k0, 0, none⟩ = some v0 ∧ cur.cell? ⟨k0, 1, none⟩ = some v1 ∧ cur.cell? ⟨k0, 2, none⟩ = some v2 ∧ cur.cell? ⟨k0, 3, none⟩ = some v3 ∧ cur.cell? ⟨k0, 4, none⟩ = some v4 ∧ cur.cell? ⟨k0, 5, none⟩ = some v5 ∧ cur.cell? ⟨k0, 6, none⟩ = some v6 ∧ cur.cell? ⟨k0, 7, none⟩ = some v7 ∧ cur.cell? ⟨k1, 0, none⟩ = some v8 ∧ cur.cell? ⟨k1, 1, none⟩ = some v9 ∧ cur.cell? ⟨k1, 2, none⟩ = some v10 ∧ cur.cell? ⟨k1, 3, none⟩ = some v11 ∧ cur.cell? ⟨k1, 4, none⟩ = some v12 ∧ cur.cell? ⟨k1, 5, none⟩ = some v13 ∧ cur.cell? ⟨k2, 0, none⟩ = some v14 ∧ cur.cell? ⟨k2, 1, none⟩ = some v15 ∧ Below w.heap.size w cur) (hle : w.heap.size ≤ b) (hn0 : k0 ≠ b) (hn1 : k1 ≠ b) (hn2 : k2 ≠ b) : (cur.setCell ⟨b, j, none⟩ x).heap[k0]? = some A0 ∧ (cur.setCell ⟨b, j, none⟩ x).heap[k1]? = some A1 ∧ (cur.setCell ⟨b, j, none⟩ x).heap[k2]? = some A2 ∧ (cur.setCell ⟨b, j, none⟩ x).cell? ⟨k0, 0, none⟩ = some v0 ∧ (cur.setCell ⟨b, j, none⟩ x).cell? ⟨k0, 1, none⟩ = some v1 ∧ (cur.setCell ⟨b, j, none⟩ x).cell? ⟨k0, 2, none⟩ = some v2 ∧ (cur.setCell ⟨b, j, none⟩ x).cell? ⟨k0, 3, none⟩ = some v3 ∧ (cur.setCell ⟨b, j, none⟩ x).cell? ⟨k0, 4, none⟩ = some v4 ∧ (cur.setCell ⟨b, j, none⟩ x).cell? ⟨k0, 5, none⟩ = some v5 ∧ (cur.setCell ⟨b, j, none⟩ x).cell? ⟨k0, 6, none⟩ = some v6 ∧ (cur.setCell ⟨b, j, none⟩ x).cell? ⟨k0, 7, none⟩ = some v7 ∧ (cur.setCell ⟨b, j, none⟩ x).cell? ⟨k1, 0, none⟩ = some v8 ∧ (cur.setCell ⟨b, j, none⟩ x).cell? ⟨k1, 1, none⟩ = some v9 ∧ (cur.setCell ⟨b, j, none⟩ x).cell? ⟨k1, 2, none⟩ = some v10 ∧ (cur.setCell ⟨b, j, none⟩ x).cell? ⟨k1, 3, none⟩ = some v11 ∧ (cur.setCell ⟨b, j, none⟩ x).cell? ⟨k1, 4, none⟩ = some v12 ∧ (cur.setCell ⟨b, j, none⟩ x).cell? ⟨k1, 5, none⟩ = some v13 ∧ (cur.setCell ⟨b, j, none⟩ x).cell? ⟨k2, 0, none⟩ = some v14 ∧ (cur.setCell ⟨b, j, none⟩ x).cell? ⟨k2, 1, none⟩ = some v15 ∧ Below w.heap.size w (cur.setCell ⟨b, j, none⟩ x) := by
  obtain ⟨a0, a1, a2, c0, c1, c2, c3, c4, c5, c6, c7, c8, c9, c10, c11, c12, c13, c14, c15, d⟩ := h
  have e0 : (cur.setCell ⟨b, j, none⟩ x).heap[k0]? = cur.heap[k0]? := heap_setCell_other _ _ _ _ hn0
  have e1 : (cur.setCell ⟨b, j, none⟩ x).heap[k1]? = cur.heap[k1]? := heap_setCell_other _ _ _ _ hn1
  have e2 : (cur.setCell ⟨b, j, none⟩ x).heap[k2]? = cur.heap[k2]? := heap_setCell_other _ _ _ _ hn2
  exact ⟨e0.trans a0, e1.trans a1, e2.trans a2, (by rw [← c0]; unfold World.cell?; rw [e0]), (by rw [← c1]; unfold World.cell?; rw [e0]), (by rw [← c2]; unfold World.cell?; rw [e0]), (by rw [← c3]; unfold World.cell?; rw [e0]), (by rw [← c4]; unfold World.cell?; rw [e0]), (by rw [← c5]; unfold World.cell?; rw [e0]), (by rw [← c6]; unfold World.cell?; rw [e0]), (by rw [← c7]; unfold World.cell?; rw [e0]), (by rw [← c8]; unfold World.cell?; rw [e1]), (by rw [← c9]; unfold World.cell?; rw [e1]), (by rw [← c10]; unfold World.cell?; rw [e1]), (by rw [← c11]; unfold World.cell?; rw [e1]), (by rw [← c12]; unfold World.cell?; rw [e1]), (by rw [← c13]; unfold World.cell?; rw [e1]), (by rw [← c14]; unfold World.cell?; rw [e2]), (by rw [← c15]; unfold World.cell?; rw [e2]), d.setCell hle _⟩
theorem tells_stepU {w cur : World} {k0 k1 k2 : Nat} {A0 A1 A2 : Obj} {v0 v1 v2 v3 v4 v5 v6 v7 v8 v9 v10 v11 v12 v13 v14 v15 : Value} {n : Nat} (h : (cur.drewN n).heap[k0]? = some A0 ∧ (cur.drewN n).heap[k1]? = some A1 ∧ (cur.drewN n).heap[k2]? = some A2 ∧ (cur.drewN n).cell? ⟨k0, 0, none⟩ = some v0 ∧ (cur.drewN n).cell? ⟨k0, 1, none⟩ = some v1 ∧ (cur.drewN n).cell? ⟨k0, 2, none⟩ = some v2 ∧ (cur.drewN n).cell? ⟨k0, 3, none⟩ = some v3 ∧ (cur.drewN n).cell? ⟨k0, 4, none⟩ = some v4 ∧ (cur.drewN n).cell? ⟨k0, 5, none⟩ = some v5 ∧ (cur.drewN n).cell? ⟨k0, 6, none⟩ = some v6 ∧ (cur.drewN n).cell? ⟨k0, 7, none⟩ = some v7 ∧ (cur.drewN n).cell? ⟨k1, 0, none⟩ = some v8 ∧ (cur.drewN n).cell? ⟨k1, 1, none⟩ = some v9 ∧ (cur.drewN n).cell? ⟨k1, 2, none⟩ = some v10 ∧ (cur.drewN n).cell? ⟨k1, 3, none⟩ = some v11 ∧ (cur.drewN n).cell? ⟨k1, 4, none⟩ = some v12 ∧ (cur.drewN n).cell? ⟨k1, 5, none⟩ = some v13 ∧ (cur.drewN n).cell? ⟨k2, 0, none⟩ = some v14 ∧ (cur.drewN n).cell? ⟨k2, 1, none⟩ = some v15 ∧ Below w.heap.size w (cur.drewN n)) : cur.heap[k0]? = some A0 ∧ cur.heap[k1]? = some A1 ∧ cur.heap[k2]? = some A2 ∧ cur.cell? ⟨k0, 0, none⟩ = some v0 ∧ cur.cell? ⟨k0, 1, none⟩ = some v1 ∧ cur.cell? ⟨k0, 2, none⟩ = some v2 ∧ cur.cell? ⟨k0, 3, none⟩ = some v3 ∧ cur.cell? ⟨k0, 4, none⟩ = some v4 ∧ cur.cell? ⟨k0, 5, none⟩ = some v5 ∧ cur.cell? ⟨k0, 6, none⟩ = some v6 ∧ cur.cell? ⟨k0, 7, none⟩ = some v7 ∧ cur.cell? ⟨k1, 0, none⟩ = some v8 ∧ cur.cell? ⟨k1, 1, none⟩ = some v9 ∧ cur.cell? ⟨k1, 2, none⟩ = some v10 ∧ cur.cell? ⟨k1, 3, none⟩ = some v11 ∧ cur.cell? ⟨k1, 4, none⟩ = some v12 ∧ cur.cell? ⟨k1, 5, none⟩ = some v13 ∧ cur.cell? ⟨k2, 0, none⟩ = some v14 ∧ cur.cell? ⟨k2, 1, none⟩ = some v15 ∧ Below w.heap.size w cur := by
  obtain ⟨a0, a1, a2, c0, c1, c2, c3, c4, c5, c6, c7, c8, c9, c10, c11, c12, c13, c14, c15, d⟩ := h
  exact ⟨a0, a1, a2, c0, c1, c2, c3, c4, c5, c6, c7, c8, c9, c10, c11, c12, c13, c14, c15, ⟨d.os, d.tape, d.output, d.size, d.block⟩⟩
set_option maxRecDepth 100000 in
set_option maxHeartbeats 16000000 in
theorem tells_core (c : CV) (p : PV) (s : ByteArray) (x y : Int) (ps : List Int) (l : List CV) (vp vl : Value) (w : World) (hc : COk c) (hp : POk p) (hcm : c.prev.size ≤ maxLen) (hsm : s.size ≤ maxLen) (hy : I64 y) (hP : LArg RInt 1 vp ps w) (hL : LArg RC 8 vl l w) (hg : Glob w) (hml : MLen w) :
    Calls Tryz.prog 3 #[.agg #[.int .i64 c.office, .int .i64 c.hour, .int .i64 c.inn, .int .i64 c.out, .int .i64 c.store, .string c.prev, .int .i64 c.e, .int .i64 c.s], .agg #[.int .i64 p.office, .int .i64 p.since, .int .i64 p.till, .int .i64 p.litres, .int .i64 p.e, .int .i64 p.s], .string s, .agg #[.int .i64 x, .int .i64 y], vp, vl] w fun e w' => e = .returned (.bool true) ∧ Below w.heap.size w w' := by
  have HG := Lib.hid hg
  have HM := Lib.hid hml
  unfold maxLen at hsm
  obtain ⟨al, lc, rfl, hlc, hlm⟩ := hL.slice
  obtain ⟨ap, pc, rfl, hpc, hpm⟩ := hP.slice
  unfold maxLen at hlm hpm
  have hlz : l.length ≤ 9223372036854775807 := by omega
  have hpz : ps.length ≤ 9223372036854775807 := by omega
  have HSh : Hid (∀ w0 b, w0.heap[b]? = some (.cells #[.int .i64 c.office, .int .i64 c.hour, .int .i64 c.inn, .int .i64 c.out, .int .i64 c.store, .string c.prev, .int .i64 c.e, .int .i64 c.s] 25) → Calls Tryz.prog 7 #[.slice (some ⟨b, 0, none⟩) 1 1] w0 fun e w' => e = .returned (.bool (shortC [c])) ∧ w' = w0) := Lib.hid (fun w0 b h => shortC_any _ [c] w0 (larg_claims (l := [c]) (c := 1) h (fun j u h => h) (fun x hx => by
    simp only [List.mem_cons, List.not_mem_nil, or_false] at hx
    rcases hx with rfl
    exact ⟨hc, hcm⟩) (Nat.le_refl _) (by decide)))
  have HSl : Hid (∀ w0, Below w.heap.size w w0 → Calls Tryz.prog 7 #[.slice al l.length lc] w0 fun e w' => e = .returned (.bool (shortC l)) ∧ w' = w0) := Lib.hid (fun w0 h => shortC_any _ l w0 (hL.below stays_RC h))
  clear hlc hpc hlm hpm
  cases hsh : shortC [c] with
  | false =>
    rw [hsh] at HSh
    clear hc hp hcm hsh hsm hy HSl hL hP hg hml hlz hpz
    go_enter Tryz.func3, Tryz.ntmps3
    go_upto_region 1 with fail
    obtain ⟨r0, r1, r2, rb⟩ := three_rows (w := w) (A := (.cells #[.int .i64 c.office, .int .i64 c.hour, .int .i64 c.inn, .int .i64 c.out, .int .i64 c.store, .string c.prev, .int .i64 c.e, .int .i64 c.s] 25)) (B := (.cells #[.int .i64 p.office, .int .i64 p.since, .int .i64 p.till, .int .i64 p.litres, .int .i64 p.e, .int .i64 p.s] 27)) (C := (.cells #[.int .i64 x, .int .i64 y] 29))
    have Ch1 := Lib.hid r0
    have Ph1 := Lib.hid r1
    have Kh1 := Lib.hid r2
    have HB1 := Lib.hid rb
    clear r0 r1 r2 rb
    generalize (((w.alloc (.cells #[.int .i64 c.office, .int .i64 c.hour, .int .i64 c.inn, .int .i64 c.out, .int .i64 c.store, .string c.prev, .int .i64 c.e, .int .i64 c.s] 25)).alloc (.cells #[.int .i64 p.office, .int .i64 p.since, .int .i64 p.till, .int .i64 p.litres, .int .i64 p.e, .int .i64 p.s] 27)).alloc (.cells #[.int .i64 x, .int .i64 y] 29)) = w1 at *
    generalize w.heap.size + 1 + 1 = bK at *
    generalize w.heap.size + 1 = bP at *
    go_wp2_with fail
    refine (small_any _ (HG.out.below HB1.out HG.out.size) (HM.out.up HB1.out)).mono ?_
    rintro e w2 ⟨rfl, hb⟩
    have HB2 := Lib.hid (HB1.out.trans (hb.mono HB1.out.size))
    have Ch2 := Lib.hid (blk_below Ch1.out hb (blk_lt Ch1.out))
    have Ph2 := Lib.hid (blk_below Ph1.out hb (blk_lt Ph1.out))
    have Kh2 := Lib.hid (blk_below Kh1.out hb (blk_lt Kh1.out))
    clear HB1 Ch1 Ph1 Kh1
    clear hb
    have cC0 : w2.cell? ⟨w.heap.size, 0, none⟩ = some (.int .i64 c.office) := (cell_of_row _ _ _ _ _ _ Ch2.out).trans rfl
    have cC1 : w2.cell? ⟨w.heap.size, 1, none⟩ = some (.int .i64 c.hour) := (cell_of_row _ _ _ _ _ _ Ch2.out).trans rfl
    have cC2 : w2.cell? ⟨w.heap.size, 2, none⟩ = some (.int .i64 c.inn) := (cell_of_row _ _ _ _ _ _ Ch2.out).trans rfl
    have cC3 : w2.cell? ⟨w.heap.size, 3, none⟩ = some (.int .i64 c.out) := (cell_of_row _ _ _ _ _ _ Ch2.out).trans rfl
    have cC4 : w2.cell? ⟨w.heap.size, 4, none⟩ = some (.int .i64 c.store) := (cell_of_row _ _ _ _ _ _ Ch2.out).trans rfl
    have cC5 : w2.cell? ⟨w.heap.size, 5, none⟩ = some (.string c.prev) := (cell_of_row _ _ _ _ _ _ Ch2.out).trans rfl
    have cC6 : w2.cell? ⟨w.heap.size, 6, none⟩ = some (.int .i64 c.e) := (cell_of_row _ _ _ _ _ _ Ch2.out).trans rfl
    have cC7 : w2.cell? ⟨w.heap.size, 7, none⟩ = some (.int .i64 c.s) := (cell_of_row _ _ _ _ _ _ Ch2.out).trans rfl
    have cP0 : w2.cell? ⟨bP, 0, none⟩ = some (.int .i64 p.office) := (cell_of_row _ _ _ _ _ _ Ph2.out).trans rfl
    have cP1 : w2.cell? ⟨bP, 1, none⟩ = some (.int .i64 p.since) := (cell_of_row _ _ _ _ _ _ Ph2.out).trans rfl
    have cP2 : w2.cell? ⟨bP, 2, none⟩ = some (.int .i64 p.till) := (cell_of_row _ _ _ _ _ _ Ph2.out).trans rfl
    have cP3 : w2.cell? ⟨bP, 3, none⟩ = some (.int .i64 p.litres) := (cell_of_row _ _ _ _ _ _ Ph2.out).trans rfl
    have cP4 : w2.cell? ⟨bP, 4, none⟩ = some (.int .i64 p.e) := (cell_of_row _ _ _ _ _ _ Ph2.out).trans rfl
    have cP5 : w2.cell? ⟨bP, 5, none⟩ = some (.int .i64 p.s) := (cell_of_row _ _ _ _ _ _ Ph2.out).trans rfl
    have cK0 : w2.cell? ⟨bK, 0, none⟩ = some (.int .i64 x) := (cell_of_row _ _ _ _ _ _ Kh2.out).trans rfl
    have cK1 : w2.cell? ⟨bK, 1, none⟩ = some (.int .i64 y) := (cell_of_row _ _ _ _ _ _ Kh2.out).trans rfl
    go_wp2_with fail
    refine (HSh.out _ _ (heap_alloc_new _ _)).mono ?_
    rintro e w3 ⟨rfl, rfl⟩
    have hb : Below w2.heap.size w2 (w2.alloc (.cells #[.int .i64 c.office, .int .i64 c.hour, .int .i64 c.inn, .int .i64 c.out, .int .i64 c.store, .string c.prev, .int .i64 c.e, .int .i64 c.s] 25)) := (Below.refl _ _).alloc (Nat.le_refl _) _
    have HB3 := Lib.hid (HB2.out.trans (hb.mono HB2.out.size))
    have Ch3 := Lib.hid (blk_below Ch2.out hb (blk_lt Ch2.out))
    have Ph3 := Lib.hid (blk_below Ph2.out hb (blk_lt Ph2.out))
    have Kh3 := Lib.hid (blk_below Kh2.out hb (blk_lt Kh2.out))
    clear cC0 cC1 cC2 cC3 cC4 cC5 cC6 cC7 cP0 cP1 cP2 cP3 cP4 cP5 cK0 cK1
    clear HB2 Ch2 Ph2 Kh2
    clear hb
    generalize w2.alloc (.cells #[.int .i64 c.office, .int .i64 c.hour, .int .i64 c.inn, .int .i64 c.out, .int .i64 c.store, .string c.prev, .int .i64 c.e, .int .i64 c.s] 25) = w3 at *
    have cC0 : w3.cell? ⟨w.heap.size, 0, none⟩ = some (.int .i64 c.office) := (cell_of_row _ _ _ _ _ _ Ch3.out).trans rfl
    have cC1 : w3.cell? ⟨w.heap.size, 1, none⟩ = some (.int .i64 c.hour) := (cell_of_row _ _ _ _ _ _ Ch3.out).trans rfl
    have cC2 : w3.cell? ⟨w.heap.size, 2, none⟩ = some (.int .i64 c.inn) := (cell_of_row _ _ _ _ _ _ Ch3.out).trans rfl
    have cC3 : w3.cell? ⟨w.heap.size, 3, none⟩ = some (.int .i64 c.out) := (cell_of_row _ _ _ _ _ _ Ch3.out).trans rfl
    have cC4 : w3.cell? ⟨w.heap.size, 4, none⟩ = some (.int .i64 c.store) := (cell_of_row _ _ _ _ _ _ Ch3.out).trans rfl
    have cC5 : w3.cell? ⟨w.heap.size, 5, none⟩ = some (.string c.prev) := (cell_of_row _ _ _ _ _ _ Ch3.out).trans rfl
    have cC6 : w3.cell? ⟨w.heap.size, 6, none⟩ = some (.int .i64 c.e) := (cell_of_row _ _ _ _ _ _ Ch3.out).trans rfl
    have cC7 : w3.cell? ⟨w.heap.size, 7, none⟩ = some (.int .i64 c.s) := (cell_of_row _ _ _ _ _ _ Ch3.out).trans rfl
    have cP0 : w3.cell? ⟨bP, 0, none⟩ = some (.int .i64 p.office) := (cell_of_row _ _ _ _ _ _ Ph3.out).trans rfl
    have cP1 : w3.cell? ⟨bP, 1, none⟩ = some (.int .i64 p.since) := (cell_of_row _ _ _ _ _ _ Ph3.out).trans rfl
    have cP2 : w3.cell? ⟨bP, 2, none⟩ = some (.int .i64 p.till) := (cell_of_row _ _ _ _ _ _ Ph3.out).trans rfl
    have cP3 : w3.cell? ⟨bP, 3, none⟩ = some (.int .i64 p.litres) := (cell_of_row _ _ _ _ _ _ Ph3.out).trans rfl
    have cP4 : w3.cell? ⟨bP, 4, none⟩ = some (.int .i64 p.e) := (cell_of_row _ _ _ _ _ _ Ph3.out).trans rfl
    have cP5 : w3.cell? ⟨bP, 5, none⟩ = some (.int .i64 p.s) := (cell_of_row _ _ _ _ _ _ Ph3.out).trans rfl
    have cK0 : w3.cell? ⟨bK, 0, none⟩ = some (.int .i64 x) := (cell_of_row _ _ _ _ _ _ Kh3.out).trans rfl
    have cK1 : w3.cell? ⟨bK, 1, none⟩ = some (.int .i64 y) := (cell_of_row _ _ _ _ _ _ Kh3.out).trans rfl
    go_wp2_with fail
    go_ret
    exact ⟨rfl, HB3.out⟩
  | true =>
    rw [hsh] at HSh
    have hpr : c.prev.size ≤ 100 := by
      unfold shortC at hsh
      rw [Bool.and_eq_true] at hsh
      have h := of_decide_eq_true hsh.1
      exact h c (by simp)
    cases hsl : shortC l with
    | false =>
      rw [hsl] at HSl
      clear hc hp hcm hsh hsm hy hL hP hg hml hpr hsl hlz hpz
      go_enter Tryz.func3, Tryz.ntmps3
      go_upto_region 1 with fail
      obtain ⟨r0, r1, r2, rb⟩ := three_rows (w := w) (A := (.cells #[.int .i64 c.office, .int .i64 c.hour, .int .i64 c.inn, .int .i64 c.out, .int .i64 c.store, .string c.prev, .int .i64 c.e, .int .i64 c.s] 25)) (B := (.cells #[.int .i64 p.office, .int .i64 p.since, .int .i64 p.till, .int .i64 p.litres, .int .i64 p.e, .int .i64 p.s] 27)) (C := (.cells #[.int .i64 x, .int .i64 y] 29))
      have Ch1 := Lib.hid r0
      have Ph1 := Lib.hid r1
      have Kh1 := Lib.hid r2
      have HB1 := Lib.hid rb
      clear r0 r1 r2 rb
      generalize (((w.alloc (.cells #[.int .i64 c.office, .int .i64 c.hour, .int .i64 c.inn, .int .i64 c.out, .int .i64 c.store, .string c.prev, .int .i64 c.e, .int .i64 c.s] 25)).alloc (.cells #[.int .i64 p.office, .int .i64 p.since, .int .i64 p.till, .int .i64 p.litres, .int .i64 p.e, .int .i64 p.s] 27)).alloc (.cells #[.int .i64 x, .int .i64 y] 29)) = w1 at *
      generalize w.heap.size + 1 + 1 = bK at *
      generalize w.heap.size + 1 = bP at *
      go_wp2_with fail
      refine (small_any _ (HG.out.below HB1.out HG.out.size) (HM.out.up HB1.out)).mono ?_
      rintro e w2 ⟨rfl, hb⟩
      have HB2 := Lib.hid (HB1.out.trans (hb.mono HB1.out.size))
      have Ch2 := Lib.hid (blk_below Ch1.out hb (blk_lt Ch1.out))
      have Ph2 := Lib.hid (blk_below Ph1.out hb (blk_lt Ph1.out))
      have Kh2 := Lib.hid (blk_below Kh1.out hb (blk_lt Kh1.out))
      clear HB1 Ch1 Ph1 Kh1
      clear hb
      have cC0 : w2.cell? ⟨w.heap.size, 0, none⟩ = some (.int .i64 c.office) := (cell_of_row _ _ _ _ _ _ Ch2.out).trans rfl
      have cC1 : w2.cell? ⟨w.heap.size, 1, none⟩ = some (.int .i64 c.hour) := (cell_of_row _ _ _ _ _ _ Ch2.out).trans rfl
      have cC2 : w2.cell? ⟨w.heap.size, 2, none⟩ = some (.int .i64 c.inn) := (cell_of_row _ _ _ _ _ _ Ch2.out).trans rfl
      have cC3 : w2.cell? ⟨w.heap.size, 3, none⟩ = some (.int .i64 c.out) := (cell_of_row _ _ _ _ _ _ Ch2.out).trans rfl
      have cC4 : w2.cell? ⟨w.heap.size, 4, none⟩ = some (.int .i64 c.store) := (cell_of_row _ _ _ _ _ _ Ch2.out).trans rfl
      have cC5 : w2.cell? ⟨w.heap.size, 5, none⟩ = some (.string c.prev) := (cell_of_row _ _ _ _ _ _ Ch2.out).trans rfl
      have cC6 : w2.cell? ⟨w.heap.size, 6, none⟩ = some (.int .i64 c.e) := (cell_of_row _ _ _ _ _ _ Ch2.out).trans rfl
      have cC7 : w2.cell? ⟨w.heap.size, 7, none⟩ = some (.int .i64 c.s) := (cell_of_row _ _ _ _ _ _ Ch2.out).trans rfl
      have cP0 : w2.cell? ⟨bP, 0, none⟩ = some (.int .i64 p.office) := (cell_of_row _ _ _ _ _ _ Ph2.out).trans rfl
      have cP1 : w2.cell? ⟨bP, 1, none⟩ = some (.int .i64 p.since) := (cell_of_row _ _ _ _ _ _ Ph2.out).trans rfl
      have cP2 : w2.cell? ⟨bP, 2, none⟩ = some (.int .i64 p.till) := (cell_of_row _ _ _ _ _ _ Ph2.out).trans rfl
      have cP3 : w2.cell? ⟨bP, 3, none⟩ = some (.int .i64 p.litres) := (cell_of_row _ _ _ _ _ _ Ph2.out).trans rfl
      have cP4 : w2.cell? ⟨bP, 4, none⟩ = some (.int .i64 p.e) := (cell_of_row _ _ _ _ _ _ Ph2.out).trans rfl
      have cP5 : w2.cell? ⟨bP, 5, none⟩ = some (.int .i64 p.s) := (cell_of_row _ _ _ _ _ _ Ph2.out).trans rfl
      have cK0 : w2.cell? ⟨bK, 0, none⟩ = some (.int .i64 x) := (cell_of_row _ _ _ _ _ _ Kh2.out).trans rfl
      have cK1 : w2.cell? ⟨bK, 1, none⟩ = some (.int .i64 y) := (cell_of_row _ _ _ _ _ _ Kh2.out).trans rfl
      go_wp2_with fail
      refine (HSh.out _ _ (heap_alloc_new _ _)).mono ?_
      rintro e w3 ⟨rfl, rfl⟩
      have hb : Below w2.heap.size w2 (w2.alloc (.cells #[.int .i64 c.office, .int .i64 c.hour, .int .i64 c.inn, .int .i64 c.out, .int .i64 c.store, .string c.prev, .int .i64 c.e, .int .i64 c.s] 25)) := (Below.refl _ _).alloc (Nat.le_refl _) _
      have HB3 := Lib.hid (HB2.out.trans (hb.mono HB2.out.size))
      have Ch3 := Lib.hid (blk_below Ch2.out hb (blk_lt Ch2.out))
      have Ph3 := Lib.hid (blk_below Ph2.out hb (blk_lt Ph2.out))
      have Kh3 := Lib.hid (blk_below Kh2.out hb (blk_lt Kh2.out))
      clear cC0 cC1 cC2 cC3 cC4 cC5 cC6 cC7 cP0 cP1 cP2 cP3 cP4 cP5 cK0 cK1
      clear HB2 Ch2 Ph2 Kh2
      clear hb
      generalize w2.alloc (.cells #[.int .i64 c.office, .int .i64 c.hour, .int .i64 c.inn, .int .i64 c.out, .int .i64 c.store, .string c.prev, .int .i64 c.e, .int .i64 c.s] 25) = w3 at *
      go_wp2_with fail
      refine (HSl.out _ HB3.out).mono ?_
      rintro e w4 ⟨rfl, hw4⟩
      rw [hw4]
      clear hw4
      have cC0 : w3.cell? ⟨w.heap.size, 0, none⟩ = some (.int .i64 c.office) := (cell_of_row _ _ _ _ _ _ Ch3.out).trans rfl
      have cC1 : w3.cell? ⟨w.heap.size, 1, none⟩ = some (.int .i64 c.hour) := (cell_of_row _ _ _ _ _ _ Ch3.out).trans rfl
      have cC2 : w3.cell? ⟨w.heap.size, 2, none⟩ = some (.int .i64 c.inn) := (cell_of_row _ _ _ _ _ _ Ch3.out).trans rfl
      have cC3 : w3.cell? ⟨w.heap.size, 3, none⟩ = some (.int .i64 c.out) := (cell_of_row _ _ _ _ _ _ Ch3.out).trans rfl
      have cC4 : w3.cell? ⟨w.heap.size, 4, none⟩ = some (.int .i64 c.store) := (cell_of_row _ _ _ _ _ _ Ch3.out).trans rfl
      have cC5 : w3.cell? ⟨w.heap.size, 5, none⟩ = some (.string c.prev) := (cell_of_row _ _ _ _ _ _ Ch3.out).trans rfl
      have cC6 : w3.cell? ⟨w.heap.size, 6, none⟩ = some (.int .i64 c.e) := (cell_of_row _ _ _ _ _ _ Ch3.out).trans rfl
      have cC7 : w3.cell? ⟨w.heap.size, 7, none⟩ = some (.int .i64 c.s) := (cell_of_row _ _ _ _ _ _ Ch3.out).trans rfl
      have cP0 : w3.cell? ⟨bP, 0, none⟩ = some (.int .i64 p.office) := (cell_of_row _ _ _ _ _ _ Ph3.out).trans rfl
      have cP1 : w3.cell? ⟨bP, 1, none⟩ = some (.int .i64 p.since) := (cell_of_row _ _ _ _ _ _ Ph3.out).trans rfl
      have cP2 : w3.cell? ⟨bP, 2, none⟩ = some (.int .i64 p.till) := (cell_of_row _ _ _ _ _ _ Ph3.out).trans rfl
      have cP3 : w3.cell? ⟨bP, 3, none⟩ = some (.int .i64 p.litres) := (cell_of_row _ _ _ _ _ _ Ph3.out).trans rfl
      have cP4 : w3.cell? ⟨bP, 4, none⟩ = some (.int .i64 p.e) := (cell_of_row _ _ _ _ _ _ Ph3.out).trans rfl
      have cP5 : w3.cell? ⟨bP, 5, none⟩ = some (.int .i64 p.s) := (cell_of_row _ _ _ _ _ _ Ph3.out).trans rfl
      have cK0 : w3.cell? ⟨bK, 0, none⟩ = some (.int .i64 x) := (cell_of_row _ _ _ _ _ _ Kh3.out).trans rfl
      have cK1 : w3.cell? ⟨bK, 1, none⟩ = some (.int .i64 y) := (cell_of_row _ _ _ _ _ _ Kh3.out).trans rfl
      go_wp2_with fail
      go_ret
      exact ⟨rfl, HB3.out⟩
    | true =>
      rw [hsl] at HSl
      by_cases hs : s.size ≤ 300
      · by_cases hn : ps.length ≤ 8
        · have hll : (∀ c ∈ l, c.prev.size ≤ 100) ∧ l.length ≤ 8 := by
            unfold shortC at hsl
            rw [Bool.and_eq_true] at hsl
            exact ⟨of_decide_eq_true hsl.1, of_decide_eq_true hsl.2⟩
          have HCO : Hid (∀ x ∈ l, COk x ∧ x.prev.size ≤ maxLen) := Lib.hid (fun x hx => by
            obtain ⟨k, hk, hkx⟩ := List.getElem_of_mem hx
            obtain ⟨b, o, cs, -, -, -, -, h⟩ := hL.at (j := k) (x := x) (by rw [List.getElem?_eq_getElem hk, hkx])
            exact ⟨h.2.1, h.2.2⟩)
          have HCh : Hid (∀ w0, Below w.heap.size w w0 → Calls Tryz.prog 28 #[.slice ap ps.length pc, .slice al l.length lc] w0 fun e w' => ∃ n v, IsCh ps l n ∧ e = .returned (.tuple #[v, .bool (decide (n = l.length))]) ∧ w'.ownsRow w0.heap.size 25 8 v n ((l.take n).flatMap cellsC) ∧ Below w0.heap.size w0 w') := Lib.hid (fun w0 h => chain_any ps l _ _ w0 (hP.below stays_int h) (hL.below stays_RC h) (by omega) (by omega) (fun c hc => by have := hll.1 c hc; omega) (hg.below h hg.size) (hml.up h))
          have HRc : Hid (∀ w0, Below w.heap.size w w0 → Calls Tryz.prog 29 #[.slice ap ps.length pc, .slice al l.length lc] w0 fun e w' => ∃ n v, IsCh ps l n ∧ e = .returned (.tuple #[v, .bool (decide (n = l.length))]) ∧ LArg RC 8 v (l.take n) w' ∧ Below w0.heap.size w0 w') := Lib.hid (fun w0 h => rchain_any ps l _ _ w0 (hP.below stays_int h) (hL.below stays_RC h) (by omega) (by omega) (fun c hc => by have := hll.1 c hc; omega))
          have hl8 := hll.2
          obtain ⟨z, u, one, two, v1, v2, A, B, D, E, g1, g2, t1, t2, hF⟩ := tellsF x y c p s hy hc hp hpr hs
          have HF := Lib.hid hF
          have heq1 := eqC z.office z.hour z.inn z.out z.store z.prev z.e z.s z.office z.hour z.inn z.out z.store z.prev z.e z.s
          have heq2 := eqP u.office u.since u.till u.litres u.e u.s u.office u.since u.till u.litres u.e u.s
          have heq3 := eqC c.office c.hour c.inn c.out c.store c.prev g1 g2 c.office c.hour c.inn c.out c.store c.prev g1 g2
          have heq4 := eqP p.office p.since p.till p.litres t1 t2 p.office p.since p.till p.litres t1 t2
          rw [decide_eq_true ⟨rfl, rfl, rfl, rfl, rfl, rfl, rfl, rfl⟩] at heq1 heq3
          rw [decide_eq_true ⟨rfl, rfl, rfl, rfl, rfl, rfl⟩] at heq2 heq4
          have hb1 : (one != one) = false := by cases one <;> rfl
          have hb2 : (two != two) = false := by cases two <;> rfl
          have hb3 : (v1 != v1) = false := by cases v1 <;> rfl
          have hb4 : (v2 != v2) = false := by cases v2 <;> rfl
          clear hF hsh hsl hpr hc hp hcm hy hL hP hg hml hll
          go_enter Tryz.func3, Tryz.ntmps3
          go_upto_region 1 with fail
          obtain ⟨r0, r1, r2, rb⟩ := three_rows (w := w) (A := (.cells #[.int .i64 c.office, .int .i64 c.hour, .int .i64 c.inn, .int .i64 c.out, .int .i64 c.store, .string c.prev, .int .i64 c.e, .int .i64 c.s] 25)) (B := (.cells #[.int .i64 p.office, .int .i64 p.since, .int .i64 p.till, .int .i64 p.litres, .int .i64 p.e, .int .i64 p.s] 27)) (C := (.cells #[.int .i64 x, .int .i64 y] 29))
          have Ch1 := Lib.hid r0
          have Ph1 := Lib.hid r1
          have Kh1 := Lib.hid r2
          have HB1 := Lib.hid rb
          clear r0 r1 r2 rb
          generalize (((w.alloc (.cells #[.int .i64 c.office, .int .i64 c.hour, .int .i64 c.inn, .int .i64 c.out, .int .i64 c.store, .string c.prev, .int .i64 c.e, .int .i64 c.s] 25)).alloc (.cells #[.int .i64 p.office, .int .i64 p.since, .int .i64 p.till, .int .i64 p.litres, .int .i64 p.e, .int .i64 p.s] 27)).alloc (.cells #[.int .i64 x, .int .i64 y] 29)) = w1 at *
          generalize w.heap.size + 1 + 1 = bK at *
          generalize w.heap.size + 1 = bP at *
          go_wp2_with fail
          refine (small_any _ (HG.out.below HB1.out HG.out.size) (HM.out.up HB1.out)).mono ?_
          rintro e w2 ⟨rfl, hb⟩
          have HB2 := Lib.hid (HB1.out.trans (hb.mono HB1.out.size))
          have Ch2 := Lib.hid (blk_below Ch1.out hb (blk_lt Ch1.out))
          have Ph2 := Lib.hid (blk_below Ph1.out hb (blk_lt Ph1.out))
          have Kh2 := Lib.hid (blk_below Kh1.out hb (blk_lt Kh1.out))
          clear HB1 Ch1 Ph1 Kh1
          clear hb
          have cC0 : w2.cell? ⟨w.heap.size, 0, none⟩ = some (.int .i64 c.office) := (cell_of_row _ _ _ _ _ _ Ch2.out).trans rfl
          have cC1 : w2.cell? ⟨w.heap.size, 1, none⟩ = some (.int .i64 c.hour) := (cell_of_row _ _ _ _ _ _ Ch2.out).trans rfl
          have cC2 : w2.cell? ⟨w.heap.size, 2, none⟩ = some (.int .i64 c.inn) := (cell_of_row _ _ _ _ _ _ Ch2.out).trans rfl
          have cC3 : w2.cell? ⟨w.heap.size, 3, none⟩ = some (.int .i64 c.out) := (cell_of_row _ _ _ _ _ _ Ch2.out).trans rfl
          have cC4 : w2.cell? ⟨w.heap.size, 4, none⟩ = some (.int .i64 c.store) := (cell_of_row _ _ _ _ _ _ Ch2.out).trans rfl
          have cC5 : w2.cell? ⟨w.heap.size, 5, none⟩ = some (.string c.prev) := (cell_of_row _ _ _ _ _ _ Ch2.out).trans rfl
          have cC6 : w2.cell? ⟨w.heap.size, 6, none⟩ = some (.int .i64 c.e) := (cell_of_row _ _ _ _ _ _ Ch2.out).trans rfl
          have cC7 : w2.cell? ⟨w.heap.size, 7, none⟩ = some (.int .i64 c.s) := (cell_of_row _ _ _ _ _ _ Ch2.out).trans rfl
          have cP0 : w2.cell? ⟨bP, 0, none⟩ = some (.int .i64 p.office) := (cell_of_row _ _ _ _ _ _ Ph2.out).trans rfl
          have cP1 : w2.cell? ⟨bP, 1, none⟩ = some (.int .i64 p.since) := (cell_of_row _ _ _ _ _ _ Ph2.out).trans rfl
          have cP2 : w2.cell? ⟨bP, 2, none⟩ = some (.int .i64 p.till) := (cell_of_row _ _ _ _ _ _ Ph2.out).trans rfl
          have cP3 : w2.cell? ⟨bP, 3, none⟩ = some (.int .i64 p.litres) := (cell_of_row _ _ _ _ _ _ Ph2.out).trans rfl
          have cP4 : w2.cell? ⟨bP, 4, none⟩ = some (.int .i64 p.e) := (cell_of_row _ _ _ _ _ _ Ph2.out).trans rfl
          have cP5 : w2.cell? ⟨bP, 5, none⟩ = some (.int .i64 p.s) := (cell_of_row _ _ _ _ _ _ Ph2.out).trans rfl
          have cK0 : w2.cell? ⟨bK, 0, none⟩ = some (.int .i64 x) := (cell_of_row _ _ _ _ _ _ Kh2.out).trans rfl
          have cK1 : w2.cell? ⟨bK, 1, none⟩ = some (.int .i64 y) := (cell_of_row _ _ _ _ _ _ Kh2.out).trans rfl
          go_wp2_with fail
          refine (HSh.out _ _ (heap_alloc_new _ _)).mono ?_
          rintro e w3 ⟨rfl, rfl⟩
          have hb : Below w2.heap.size w2 (w2.alloc (.cells #[.int .i64 c.office, .int .i64 c.hour, .int .i64 c.inn, .int .i64 c.out, .int .i64 c.store, .string c.prev, .int .i64 c.e, .int .i64 c.s] 25)) := (Below.refl _ _).alloc (Nat.le_refl _) _
          have HB3 := Lib.hid (HB2.out.trans (hb.mono HB2.out.size))
          have Ch3 := Lib.hid (blk_below Ch2.out hb (blk_lt Ch2.out))
          have Ph3 := Lib.hid (blk_below Ph2.out hb (blk_lt Ph2.out))
          have Kh3 := Lib.hid (blk_below Kh2.out hb (blk_lt Kh2.out))
          clear cC0 cC1 cC2 cC3 cC4 cC5 cC6 cC7 cP0 cP1 cP2 cP3 cP4 cP5 cK0 cK1
          clear HB2 Ch2 Ph2 Kh2
          clear hb
          generalize w2.alloc (.cells #[.int .i64 c.office, .int .i64 c.hour, .int .i64 c.inn, .int .i64 c.out, .int .i64 c.store, .string c.prev, .int .i64 c.e, .int .i64 c.s] 25) = w3 at *
          go_wp2_with fail
          refine (HSl.out _ HB3.out).mono ?_
          rintro e w4 ⟨rfl, hw4⟩
          rw [hw4]
          clear hw4
          have cC0 : w3.cell? ⟨w.heap.size, 0, none⟩ = some (.int .i64 c.office) := (cell_of_row _ _ _ _ _ _ Ch3.out).trans rfl
          have cC1 : w3.cell? ⟨w.heap.size, 1, none⟩ = some (.int .i64 c.hour) := (cell_of_row _ _ _ _ _ _ Ch3.out).trans rfl
          have cC2 : w3.cell? ⟨w.heap.size, 2, none⟩ = some (.int .i64 c.inn) := (cell_of_row _ _ _ _ _ _ Ch3.out).trans rfl
          have cC3 : w3.cell? ⟨w.heap.size, 3, none⟩ = some (.int .i64 c.out) := (cell_of_row _ _ _ _ _ _ Ch3.out).trans rfl
          have cC4 : w3.cell? ⟨w.heap.size, 4, none⟩ = some (.int .i64 c.store) := (cell_of_row _ _ _ _ _ _ Ch3.out).trans rfl
          have cC5 : w3.cell? ⟨w.heap.size, 5, none⟩ = some (.string c.prev) := (cell_of_row _ _ _ _ _ _ Ch3.out).trans rfl
          have cC6 : w3.cell? ⟨w.heap.size, 6, none⟩ = some (.int .i64 c.e) := (cell_of_row _ _ _ _ _ _ Ch3.out).trans rfl
          have cC7 : w3.cell? ⟨w.heap.size, 7, none⟩ = some (.int .i64 c.s) := (cell_of_row _ _ _ _ _ _ Ch3.out).trans rfl
          have cP0 : w3.cell? ⟨bP, 0, none⟩ = some (.int .i64 p.office) := (cell_of_row _ _ _ _ _ _ Ph3.out).trans rfl
          have cP1 : w3.cell? ⟨bP, 1, none⟩ = some (.int .i64 p.since) := (cell_of_row _ _ _ _ _ _ Ph3.out).trans rfl
          have cP2 : w3.cell? ⟨bP, 2, none⟩ = some (.int .i64 p.till) := (cell_of_row _ _ _ _ _ _ Ph3.out).trans rfl
          have cP3 : w3.cell? ⟨bP, 3, none⟩ = some (.int .i64 p.litres) := (cell_of_row _ _ _ _ _ _ Ph3.out).trans rfl
          have cP4 : w3.cell? ⟨bP, 4, none⟩ = some (.int .i64 p.e) := (cell_of_row _ _ _ _ _ _ Ph3.out).trans rfl
          have cP5 : w3.cell? ⟨bP, 5, none⟩ = some (.int .i64 p.s) := (cell_of_row _ _ _ _ _ _ Ph3.out).trans rfl
          have cK0 : w3.cell? ⟨bK, 0, none⟩ = some (.int .i64 x) := (cell_of_row _ _ _ _ _ _ Kh3.out).trans rfl
          have cK1 : w3.cell? ⟨bK, 1, none⟩ = some (.int .i64 y) := (cell_of_row _ _ _ _ _ _ Kh3.out).trans rfl
          go_wp2_with fail
          refine (HF.out.rd _).mono ?_
          rintro e w4 ⟨rfl, hb⟩
          have HB4 := Lib.hid (HB3.out.trans (hb.mono HB3.out.size))
          have Ch4 := Lib.hid (blk_below Ch3.out hb (blk_lt Ch3.out))
          have Ph4 := Lib.hid (blk_below Ph3.out hb (blk_lt Ph3.out))
          have Kh4 := Lib.hid (blk_below Kh3.out hb (blk_lt Kh3.out))
          clear cC0 cC1 cC2 cC3 cC4 cC5 cC6 cC7 cP0 cP1 cP2 cP3 cP4 cP5 cK0 cK1
          clear HB3 Ch3 Ph3 Kh3
          clear hb
          have cC0 : w4.cell? ⟨w.heap.size, 0, none⟩ = some (.int .i64 c.office) := (cell_of_row _ _ _ _ _ _ Ch4.out).trans rfl
          have cC1 : w4.cell? ⟨w.heap.size, 1, none⟩ = some (.int .i64 c.hour) := (cell_of_row _ _ _ _ _ _ Ch4.out).trans rfl
          have cC2 : w4.cell? ⟨w.heap.size, 2, none⟩ = some (.int .i64 c.inn) := (cell_of_row _ _ _ _ _ _ Ch4.out).trans rfl
          have cC3 : w4.cell? ⟨w.heap.size, 3, none⟩ = some (.int .i64 c.out) := (cell_of_row _ _ _ _ _ _ Ch4.out).trans rfl
          have cC4 : w4.cell? ⟨w.heap.size, 4, none⟩ = some (.int .i64 c.store) := (cell_of_row _ _ _ _ _ _ Ch4.out).trans rfl
          have cC5 : w4.cell? ⟨w.heap.size, 5, none⟩ = some (.string c.prev) := (cell_of_row _ _ _ _ _ _ Ch4.out).trans rfl
          have cC6 : w4.cell? ⟨w.heap.size, 6, none⟩ = some (.int .i64 c.e) := (cell_of_row _ _ _ _ _ _ Ch4.out).trans rfl
          have cC7 : w4.cell? ⟨w.heap.size, 7, none⟩ = some (.int .i64 c.s) := (cell_of_row _ _ _ _ _ _ Ch4.out).trans rfl
          have cP0 : w4.cell? ⟨bP, 0, none⟩ = some (.int .i64 p.office) := (cell_of_row _ _ _ _ _ _ Ph4.out).trans rfl
          have cP1 : w4.cell? ⟨bP, 1, none⟩ = some (.int .i64 p.since) := (cell_of_row _ _ _ _ _ _ Ph4.out).trans rfl
          have cP2 : w4.cell? ⟨bP, 2, none⟩ = some (.int .i64 p.till) := (cell_of_row _ _ _ _ _ _ Ph4.out).trans rfl
          have cP3 : w4.cell? ⟨bP, 3, none⟩ = some (.int .i64 p.litres) := (cell_of_row _ _ _ _ _ _ Ph4.out).trans rfl
          have cP4 : w4.cell? ⟨bP, 4, none⟩ = some (.int .i64 p.e) := (cell_of_row _ _ _ _ _ _ Ph4.out).trans rfl
          have cP5 : w4.cell? ⟨bP, 5, none⟩ = some (.int .i64 p.s) := (cell_of_row _ _ _ _ _ _ Ph4.out).trans rfl
          have cK0 : w4.cell? ⟨bK, 0, none⟩ = some (.int .i64 x) := (cell_of_row _ _ _ _ _ _ Kh4.out).trans rfl
          have cK1 : w4.cell? ⟨bK, 1, none⟩ = some (.int .i64 y) := (cell_of_row _ _ _ _ _ _ Kh4.out).trans rfl
          go_upto_region 5 with fail
          have HB5 := Lib.hid (HB4.out.alloc HB4.out.size (.cells #[.int .i64 z.office, .int .i64 z.hour, .int .i64 z.inn, .int .i64 z.out, .int .i64 z.store, .string z.prev, .int .i64 z.e, .int .i64 z.s] 25))
          have Ah5 := Lib.hid (heap_alloc_new w4 (.cells #[.int .i64 z.office, .int .i64 z.hour, .int .i64 z.inn, .int .i64 z.out, .int .i64 z.store, .string z.prev, .int .i64 z.e, .int .i64 z.s] 25))
          have Ch5 := Lib.hid (blk_below Ch4.out ((Below.refl w4.heap.size w4).alloc (Nat.le_refl _) (.cells #[.int .i64 z.office, .int .i64 z.hour, .int .i64 z.inn, .int .i64 z.out, .int .i64 z.store, .string z.prev, .int .i64 z.e, .int .i64 z.s] 25)) (blk_lt Ch4.out))
          have Ph5 := Lib.hid (blk_below Ph4.out ((Below.refl w4.heap.size w4).alloc (Nat.le_refl _) (.cells #[.int .i64 z.office, .int .i64 z.hour, .int .i64 z.inn, .int .i64 z.out, .int .i64 z.store, .string z.prev, .int .i64 z.e, .int .i64 z.s] 25)) (blk_lt Ph4.out))
          have Kh5 := Lib.hid (blk_below Kh4.out ((Below.refl w4.heap.size w4).alloc (Nat.le_refl _) (.cells #[.int .i64 z.office, .int .i64 z.hour, .int .i64 z.inn, .int .i64 z.out, .int .i64 z.store, .string z.prev, .int .i64 z.e, .int .i64 z.s] 25)) (blk_lt Kh4.out))
          clear cC0 cC1 cC2 cC3 cC4 cC5 cC6 cC7 cP0 cP1 cP2 cP3 cP4 cP5 cK0 cK1
          clear HB4 Ch4 Ph4 Kh4
          generalize w4.heap.size = bA at *
          generalize w4.alloc (.cells #[.int .i64 z.office, .int .i64 z.hour, .int .i64 z.inn, .int .i64 z.out, .int .i64 z.store, .string z.prev, .int .i64 z.e, .int .i64 z.s] 25) = w5 at *
          have cC0 : w5.cell? ⟨w.heap.size, 0, none⟩ = some (.int .i64 c.office) := (cell_of_row _ _ _ _ _ _ Ch5.out).trans rfl
          have cC1 : w5.cell? ⟨w.heap.size, 1, none⟩ = some (.int .i64 c.hour) := (cell_of_row _ _ _ _ _ _ Ch5.out).trans rfl
          have cC2 : w5.cell? ⟨w.heap.size, 2, none⟩ = some (.int .i64 c.inn) := (cell_of_row _ _ _ _ _ _ Ch5.out).trans rfl
          have cC3 : w5.cell? ⟨w.heap.size, 3, none⟩ = some (.int .i64 c.out) := (cell_of_row _ _ _ _ _ _ Ch5.out).trans rfl
          have cC4 : w5.cell? ⟨w.heap.size, 4, none⟩ = some (.int .i64 c.store) := (cell_of_row _ _ _ _ _ _ Ch5.out).trans rfl
          have cC5 : w5.cell? ⟨w.heap.size, 5, none⟩ = some (.string c.prev) := (cell_of_row _ _ _ _ _ _ Ch5.out).trans rfl
          have cC6 : w5.cell? ⟨w.heap.size, 6, none⟩ = some (.int .i64 c.e) := (cell_of_row _ _ _ _ _ _ Ch5.out).trans rfl
          have cC7 : w5.cell? ⟨w.heap.size, 7, none⟩ = some (.int .i64 c.s) := (cell_of_row _ _ _ _ _ _ Ch5.out).trans rfl
          have cP0 : w5.cell? ⟨bP, 0, none⟩ = some (.int .i64 p.office) := (cell_of_row _ _ _ _ _ _ Ph5.out).trans rfl
          have cP1 : w5.cell? ⟨bP, 1, none⟩ = some (.int .i64 p.since) := (cell_of_row _ _ _ _ _ _ Ph5.out).trans rfl
          have cP2 : w5.cell? ⟨bP, 2, none⟩ = some (.int .i64 p.till) := (cell_of_row _ _ _ _ _ _ Ph5.out).trans rfl
          have cP3 : w5.cell? ⟨bP, 3, none⟩ = some (.int .i64 p.litres) := (cell_of_row _ _ _ _ _ _ Ph5.out).trans rfl
          have cP4 : w5.cell? ⟨bP, 4, none⟩ = some (.int .i64 p.e) := (cell_of_row _ _ _ _ _ _ Ph5.out).trans rfl
          have cP5 : w5.cell? ⟨bP, 5, none⟩ = some (.int .i64 p.s) := (cell_of_row _ _ _ _ _ _ Ph5.out).trans rfl
          have cK0 : w5.cell? ⟨bK, 0, none⟩ = some (.int .i64 x) := (cell_of_row _ _ _ _ _ _ Kh5.out).trans rfl
          have cK1 : w5.cell? ⟨bK, 1, none⟩ = some (.int .i64 y) := (cell_of_row _ _ _ _ _ _ Kh5.out).trans rfl
          have cA0 : w5.cell? ⟨bA, 0, none⟩ = some (.int .i64 z.office) := (cell_of_row _ _ _ _ _ _ Ah5.out).trans rfl
          have cA1 : w5.cell? ⟨bA, 1, none⟩ = some (.int .i64 z.hour) := (cell_of_row _ _ _ _ _ _ Ah5.out).trans rfl
          have cA2 : w5.cell? ⟨bA, 2, none⟩ = some (.int .i64 z.inn) := (cell_of_row _ _ _ _ _ _ Ah5.out).trans rfl
          have cA3 : w5.cell? ⟨bA, 3, none⟩ = some (.int .i64 z.out) := (cell_of_row _ _ _ _ _ _ Ah5.out).trans rfl
          have cA4 : w5.cell? ⟨bA, 4, none⟩ = some (.int .i64 z.store) := (cell_of_row _ _ _ _ _ _ Ah5.out).trans rfl
          have cA5 : w5.cell? ⟨bA, 5, none⟩ = some (.string z.prev) := (cell_of_row _ _ _ _ _ _ Ah5.out).trans rfl
          have cA6 : w5.cell? ⟨bA, 6, none⟩ = some (.int .i64 z.e) := (cell_of_row _ _ _ _ _ _ Ah5.out).trans rfl
          have cA7 : w5.cell? ⟨bA, 7, none⟩ = some (.int .i64 z.s) := (cell_of_row _ _ _ _ _ _ Ah5.out).trans rfl
          go_wp2_with fail
          refine (HF.out.rrd _).mono ?_
          rintro e w6 ⟨rfl, hb⟩
          have HB6 := Lib.hid (HB5.out.trans (hb.mono HB5.out.size))
          have Ch6 := Lib.hid (blk_below Ch5.out hb (blk_lt Ch5.out))
          have Ph6 := Lib.hid (blk_below Ph5.out hb (blk_lt Ph5.out))
          have Kh6 := Lib.hid (blk_below Kh5.out hb (blk_lt Kh5.out))
          have Ah6 := Lib.hid (blk_below Ah5.out hb (blk_lt Ah5.out))
          clear cC0 cC1 cC2 cC3 cC4 cC5 cC6 cC7 cP0 cP1 cP2 cP3 cP4 cP5 cK0 cK1 cA0 cA1 cA2 cA3 cA4 cA5 cA6 cA7
          clear HB5 Ch5 Ph5 Kh5 Ah5
          clear hb
          have cC0 : w6.cell? ⟨w.heap.size, 0, none⟩ = some (.int .i64 c.office) := (cell_of_row _ _ _ _ _ _ Ch6.out).trans rfl
          have cC1 : w6.cell? ⟨w.heap.size, 1, none⟩ = some (.int .i64 c.hour) := (cell_of_row _ _ _ _ _ _ Ch6.out).trans rfl
          have cC2 : w6.cell? ⟨w.heap.size, 2, none⟩ = some (.int .i64 c.inn) := (cell_of_row _ _ _ _ _ _ Ch6.out).trans rfl
          have cC3 : w6.cell? ⟨w.heap.size, 3, none⟩ = some (.int .i64 c.out) := (cell_of_row _ _ _ _ _ _ Ch6.out).trans rfl
          have cC4 : w6.cell? ⟨w.heap.size, 4, none⟩ = some (.int .i64 c.store) := (cell_of_row _ _ _ _ _ _ Ch6.out).trans rfl
          have cC5 : w6.cell? ⟨w.heap.size, 5, none⟩ = some (.string c.prev) := (cell_of_row _ _ _ _ _ _ Ch6.out).trans rfl
          have cC6 : w6.cell? ⟨w.heap.size, 6, none⟩ = some (.int .i64 c.e) := (cell_of_row _ _ _ _ _ _ Ch6.out).trans rfl
          have cC7 : w6.cell? ⟨w.heap.size, 7, none⟩ = some (.int .i64 c.s) := (cell_of_row _ _ _ _ _ _ Ch6.out).trans rfl
          have cP0 : w6.cell? ⟨bP, 0, none⟩ = some (.int .i64 p.office) := (cell_of_row _ _ _ _ _ _ Ph6.out).trans rfl
          have cP1 : w6.cell? ⟨bP, 1, none⟩ = some (.int .i64 p.since) := (cell_of_row _ _ _ _ _ _ Ph6.out).trans rfl
          have cP2 : w6.cell? ⟨bP, 2, none⟩ = some (.int .i64 p.till) := (cell_of_row _ _ _ _ _ _ Ph6.out).trans rfl
          have cP3 : w6.cell? ⟨bP, 3, none⟩ = some (.int .i64 p.litres) := (cell_of_row _ _ _ _ _ _ Ph6.out).trans rfl
          have cP4 : w6.cell? ⟨bP, 4, none⟩ = some (.int .i64 p.e) := (cell_of_row _ _ _ _ _ _ Ph6.out).trans rfl
          have cP5 : w6.cell? ⟨bP, 5, none⟩ = some (.int .i64 p.s) := (cell_of_row _ _ _ _ _ _ Ph6.out).trans rfl
          have cK0 : w6.cell? ⟨bK, 0, none⟩ = some (.int .i64 x) := (cell_of_row _ _ _ _ _ _ Kh6.out).trans rfl
          have cK1 : w6.cell? ⟨bK, 1, none⟩ = some (.int .i64 y) := (cell_of_row _ _ _ _ _ _ Kh6.out).trans rfl
          have cA0 : w6.cell? ⟨bA, 0, none⟩ = some (.int .i64 z.office) := (cell_of_row _ _ _ _ _ _ Ah6.out).trans rfl
          have cA1 : w6.cell? ⟨bA, 1, none⟩ = some (.int .i64 z.hour) := (cell_of_row _ _ _ _ _ _ Ah6.out).trans rfl
          have cA2 : w6.cell? ⟨bA, 2, none⟩ = some (.int .i64 z.inn) := (cell_of_row _ _ _ _ _ _ Ah6.out).trans rfl
          have cA3 : w6.cell? ⟨bA, 3, none⟩ = some (.int .i64 z.out) := (cell_of_row _ _ _ _ _ _ Ah6.out).trans rfl
          have cA4 : w6.cell? ⟨bA, 4, none⟩ = some (.int .i64 z.store) := (cell_of_row _ _ _ _ _ _ Ah6.out).trans rfl
          have cA5 : w6.cell? ⟨bA, 5, none⟩ = some (.string z.prev) := (cell_of_row _ _ _ _ _ _ Ah6.out).trans rfl
          have cA6 : w6.cell? ⟨bA, 6, none⟩ = some (.int .i64 z.e) := (cell_of_row _ _ _ _ _ _ Ah6.out).trans rfl
          have cA7 : w6.cell? ⟨bA, 7, none⟩ = some (.int .i64 z.s) := (cell_of_row _ _ _ _ _ _ Ah6.out).trans rfl
          go_upto_region 6 with fail
          have HB7 := Lib.hid (HB6.out.alloc HB6.out.size (.cells #[.int .i64 z.office, .int .i64 z.hour, .int .i64 z.inn, .int .i64 z.out, .int .i64 z.store, .string z.prev, .int .i64 z.e, .int .i64 z.s] 25))
          have Bh7 := Lib.hid (heap_alloc_new w6 (.cells #[.int .i64 z.office, .int .i64 z.hour, .int .i64 z.inn, .int .i64 z.out, .int .i64 z.store, .string z.prev, .int .i64 z.e, .int .i64 z.s] 25))
          have Ch7 := Lib.hid (blk_below Ch6.out ((Below.refl w6.heap.size w6).alloc (Nat.le_refl _) (.cells #[.int .i64 z.office, .int .i64 z.hour, .int .i64 z.inn, .int .i64 z.out, .int .i64 z.store, .string z.prev, .int .i64 z.e, .int .i64 z.s] 25)) (blk_lt Ch6.out))
          have Ph7 := Lib.hid (blk_below Ph6.out ((Below.refl w6.heap.size w6).alloc (Nat.le_refl _) (.cells #[.int .i64 z.office, .int .i64 z.hour, .int .i64 z.inn, .int .i64 z.out, .int .i64 z.store, .string z.prev, .int .i64 z.e, .int .i64 z.s] 25)) (blk_lt Ph6.out))
          have Kh7 := Lib.hid (blk_below Kh6.out ((Below.refl w6.heap.size w6).alloc (Nat.le_refl _) (.cells #[.int .i64 z.office, .int .i64 z.hour, .int .i64 z.inn, .int .i64 z.out, .int .i64 z.store, .string z.prev, .int .i64 z.e, .int .i64 z.s] 25)) (blk_lt Kh6.out))
          have Ah7 := Lib.hid (blk_below Ah6.out ((Below.refl w6.heap.size w6).alloc (Nat.le_refl _) (.cells #[.int .i64 z.office, .int .i64 z.hour, .int .i64 z.inn, .int .i64 z.out, .int .i64 z.store, .string z.prev, .int .i64 z.e, .int .i64 z.s] 25)) (blk_lt Ah6.out))
          clear cC0 cC1 cC2 cC3 cC4 cC5 cC6 cC7 cP0 cP1 cP2 cP3 cP4 cP5 cK0 cK1 cA0 cA1 cA2 cA3 cA4 cA5 cA6 cA7
          clear HB6 Ch6 Ph6 Kh6 Ah6
          generalize w6.heap.size = bB at *
          generalize w6.alloc (.cells #[.int .i64 z.office, .int .i64 z.hour, .int .i64 z.inn, .int .i64 z.out, .int .i64 z.store, .string z.prev, .int .i64 z.e, .int .i64 z.s] 25) = w7 at *
          have cC0 : w7.cell? ⟨w.heap.size, 0, none⟩ = some (.int .i64 c.office) := (cell_of_row _ _ _ _ _ _ Ch7.out).trans rfl
          have cC1 : w7.cell? ⟨w.heap.size, 1, none⟩ = some (.int .i64 c.hour) := (cell_of_row _ _ _ _ _ _ Ch7.out).trans rfl
          have cC2 : w7.cell? ⟨w.heap.size, 2, none⟩ = some (.int .i64 c.inn) := (cell_of_row _ _ _ _ _ _ Ch7.out).trans rfl
          have cC3 : w7.cell? ⟨w.heap.size, 3, none⟩ = some (.int .i64 c.out) := (cell_of_row _ _ _ _ _ _ Ch7.out).trans rfl
          have cC4 : w7.cell? ⟨w.heap.size, 4, none⟩ = some (.int .i64 c.store) := (cell_of_row _ _ _ _ _ _ Ch7.out).trans rfl
          have cC5 : w7.cell? ⟨w.heap.size, 5, none⟩ = some (.string c.prev) := (cell_of_row _ _ _ _ _ _ Ch7.out).trans rfl
          have cC6 : w7.cell? ⟨w.heap.size, 6, none⟩ = some (.int .i64 c.e) := (cell_of_row _ _ _ _ _ _ Ch7.out).trans rfl
          have cC7 : w7.cell? ⟨w.heap.size, 7, none⟩ = some (.int .i64 c.s) := (cell_of_row _ _ _ _ _ _ Ch7.out).trans rfl
          have cP0 : w7.cell? ⟨bP, 0, none⟩ = some (.int .i64 p.office) := (cell_of_row _ _ _ _ _ _ Ph7.out).trans rfl
          have cP1 : w7.cell? ⟨bP, 1, none⟩ = some (.int .i64 p.since) := (cell_of_row _ _ _ _ _ _ Ph7.out).trans rfl
          have cP2 : w7.cell? ⟨bP, 2, none⟩ = some (.int .i64 p.till) := (cell_of_row _ _ _ _ _ _ Ph7.out).trans rfl
          have cP3 : w7.cell? ⟨bP, 3, none⟩ = some (.int .i64 p.litres) := (cell_of_row _ _ _ _ _ _ Ph7.out).trans rfl
          have cP4 : w7.cell? ⟨bP, 4, none⟩ = some (.int .i64 p.e) := (cell_of_row _ _ _ _ _ _ Ph7.out).trans rfl
          have cP5 : w7.cell? ⟨bP, 5, none⟩ = some (.int .i64 p.s) := (cell_of_row _ _ _ _ _ _ Ph7.out).trans rfl
          have cK0 : w7.cell? ⟨bK, 0, none⟩ = some (.int .i64 x) := (cell_of_row _ _ _ _ _ _ Kh7.out).trans rfl
          have cK1 : w7.cell? ⟨bK, 1, none⟩ = some (.int .i64 y) := (cell_of_row _ _ _ _ _ _ Kh7.out).trans rfl
          have cA0 : w7.cell? ⟨bA, 0, none⟩ = some (.int .i64 z.office) := (cell_of_row _ _ _ _ _ _ Ah7.out).trans rfl
          have cA1 : w7.cell? ⟨bA, 1, none⟩ = some (.int .i64 z.hour) := (cell_of_row _ _ _ _ _ _ Ah7.out).trans rfl
          have cA2 : w7.cell? ⟨bA, 2, none⟩ = some (.int .i64 z.inn) := (cell_of_row _ _ _ _ _ _ Ah7.out).trans rfl
          have cA3 : w7.cell? ⟨bA, 3, none⟩ = some (.int .i64 z.out) := (cell_of_row _ _ _ _ _ _ Ah7.out).trans rfl
          have cA4 : w7.cell? ⟨bA, 4, none⟩ = some (.int .i64 z.store) := (cell_of_row _ _ _ _ _ _ Ah7.out).trans rfl
          have cA5 : w7.cell? ⟨bA, 5, none⟩ = some (.string z.prev) := (cell_of_row _ _ _ _ _ _ Ah7.out).trans rfl
          have cA6 : w7.cell? ⟨bA, 6, none⟩ = some (.int .i64 z.e) := (cell_of_row _ _ _ _ _ _ Ah7.out).trans rfl
          have cA7 : w7.cell? ⟨bA, 7, none⟩ = some (.int .i64 z.s) := (cell_of_row _ _ _ _ _ _ Ah7.out).trans rfl
          have cB0 : w7.cell? ⟨bB, 0, none⟩ = some (.int .i64 z.office) := (cell_of_row _ _ _ _ _ _ Bh7.out).trans rfl
          have cB1 : w7.cell? ⟨bB, 1, none⟩ = some (.int .i64 z.hour) := (cell_of_row _ _ _ _ _ _ Bh7.out).trans rfl
          have cB2 : w7.cell? ⟨bB, 2, none⟩ = some (.int .i64 z.inn) := (cell_of_row _ _ _ _ _ _ Bh7.out).trans rfl
          have cB3 : w7.cell? ⟨bB, 3, none⟩ = some (.int .i64 z.out) := (cell_of_row _ _ _ _ _ _ Bh7.out).trans rfl
          have cB4 : w7.cell? ⟨bB, 4, none⟩ = some (.int .i64 z.store) := (cell_of_row _ _ _ _ _ _ Bh7.out).trans rfl
          have cB5 : w7.cell? ⟨bB, 5, none⟩ = some (.string z.prev) := (cell_of_row _ _ _ _ _ _ Bh7.out).trans rfl
          have cB6 : w7.cell? ⟨bB, 6, none⟩ = some (.int .i64 z.e) := (cell_of_row _ _ _ _ _ _ Bh7.out).trans rfl
          have cB7 : w7.cell? ⟨bB, 7, none⟩ = some (.int .i64 z.s) := (cell_of_row _ _ _ _ _ _ Bh7.out).trans rfl
          go_wp2_with fail
          refine (HF.out.pr _).mono ?_
          rintro e w8 ⟨rfl, hb⟩
          have HB8 := Lib.hid (HB7.out.trans (hb.mono HB7.out.size))
          have Ch8 := Lib.hid (blk_below Ch7.out hb (blk_lt Ch7.out))
          have Ph8 := Lib.hid (blk_below Ph7.out hb (blk_lt Ph7.out))
          have Kh8 := Lib.hid (blk_below Kh7.out hb (blk_lt Kh7.out))
          have Ah8 := Lib.hid (blk_below Ah7.out hb (blk_lt Ah7.out))
          have Bh8 := Lib.hid (blk_below Bh7.out hb (blk_lt Bh7.out))
          clear cC0 cC1 cC2 cC3 cC4 cC5 cC6 cC7 cP0 cP1 cP2 cP3 cP4 cP5 cK0 cK1 cA0 cA1 cA2 cA3 cA4 cA5 cA6 cA7 cB0 cB1 cB2 cB3 cB4 cB5 cB6 cB7
          clear HB7 Ch7 Ph7 Kh7 Ah7 Bh7
          clear hb
          have cC0 : w8.cell? ⟨w.heap.size, 0, none⟩ = some (.int .i64 c.office) := (cell_of_row _ _ _ _ _ _ Ch8.out).trans rfl
          have cC1 : w8.cell? ⟨w.heap.size, 1, none⟩ = some (.int .i64 c.hour) := (cell_of_row _ _ _ _ _ _ Ch8.out).trans rfl
          have cC2 : w8.cell? ⟨w.heap.size, 2, none⟩ = some (.int .i64 c.inn) := (cell_of_row _ _ _ _ _ _ Ch8.out).trans rfl
          have cC3 : w8.cell? ⟨w.heap.size, 3, none⟩ = some (.int .i64 c.out) := (cell_of_row _ _ _ _ _ _ Ch8.out).trans rfl
          have cC4 : w8.cell? ⟨w.heap.size, 4, none⟩ = some (.int .i64 c.store) := (cell_of_row _ _ _ _ _ _ Ch8.out).trans rfl
          have cC5 : w8.cell? ⟨w.heap.size, 5, none⟩ = some (.string c.prev) := (cell_of_row _ _ _ _ _ _ Ch8.out).trans rfl
          have cC6 : w8.cell? ⟨w.heap.size, 6, none⟩ = some (.int .i64 c.e) := (cell_of_row _ _ _ _ _ _ Ch8.out).trans rfl
          have cC7 : w8.cell? ⟨w.heap.size, 7, none⟩ = some (.int .i64 c.s) := (cell_of_row _ _ _ _ _ _ Ch8.out).trans rfl
          have cP0 : w8.cell? ⟨bP, 0, none⟩ = some (.int .i64 p.office) := (cell_of_row _ _ _ _ _ _ Ph8.out).trans rfl
          have cP1 : w8.cell? ⟨bP, 1, none⟩ = some (.int .i64 p.since) := (cell_of_row _ _ _ _ _ _ Ph8.out).trans rfl
          have cP2 : w8.cell? ⟨bP, 2, none⟩ = some (.int .i64 p.till) := (cell_of_row _ _ _ _ _ _ Ph8.out).trans rfl
          have cP3 : w8.cell? ⟨bP, 3, none⟩ = some (.int .i64 p.litres) := (cell_of_row _ _ _ _ _ _ Ph8.out).trans rfl
          have cP4 : w8.cell? ⟨bP, 4, none⟩ = some (.int .i64 p.e) := (cell_of_row _ _ _ _ _ _ Ph8.out).trans rfl
          have cP5 : w8.cell? ⟨bP, 5, none⟩ = some (.int .i64 p.s) := (cell_of_row _ _ _ _ _ _ Ph8.out).trans rfl
          have cK0 : w8.cell? ⟨bK, 0, none⟩ = some (.int .i64 x) := (cell_of_row _ _ _ _ _ _ Kh8.out).trans rfl
          have cK1 : w8.cell? ⟨bK, 1, none⟩ = some (.int .i64 y) := (cell_of_row _ _ _ _ _ _ Kh8.out).trans rfl
          have cA0 : w8.cell? ⟨bA, 0, none⟩ = some (.int .i64 z.office) := (cell_of_row _ _ _ _ _ _ Ah8.out).trans rfl
          have cA1 : w8.cell? ⟨bA, 1, none⟩ = some (.int .i64 z.hour) := (cell_of_row _ _ _ _ _ _ Ah8.out).trans rfl
          have cA2 : w8.cell? ⟨bA, 2, none⟩ = some (.int .i64 z.inn) := (cell_of_row _ _ _ _ _ _ Ah8.out).trans rfl
          have cA3 : w8.cell? ⟨bA, 3, none⟩ = some (.int .i64 z.out) := (cell_of_row _ _ _ _ _ _ Ah8.out).trans rfl
          have cA4 : w8.cell? ⟨bA, 4, none⟩ = some (.int .i64 z.store) := (cell_of_row _ _ _ _ _ _ Ah8.out).trans rfl
          have cA5 : w8.cell? ⟨bA, 5, none⟩ = some (.string z.prev) := (cell_of_row _ _ _ _ _ _ Ah8.out).trans rfl
          have cA6 : w8.cell? ⟨bA, 6, none⟩ = some (.int .i64 z.e) := (cell_of_row _ _ _ _ _ _ Ah8.out).trans rfl
          have cA7 : w8.cell? ⟨bA, 7, none⟩ = some (.int .i64 z.s) := (cell_of_row _ _ _ _ _ _ Ah8.out).trans rfl
          have cB0 : w8.cell? ⟨bB, 0, none⟩ = some (.int .i64 z.office) := (cell_of_row _ _ _ _ _ _ Bh8.out).trans rfl
          have cB1 : w8.cell? ⟨bB, 1, none⟩ = some (.int .i64 z.hour) := (cell_of_row _ _ _ _ _ _ Bh8.out).trans rfl
          have cB2 : w8.cell? ⟨bB, 2, none⟩ = some (.int .i64 z.inn) := (cell_of_row _ _ _ _ _ _ Bh8.out).trans rfl
          have cB3 : w8.cell? ⟨bB, 3, none⟩ = some (.int .i64 z.out) := (cell_of_row _ _ _ _ _ _ Bh8.out).trans rfl
          have cB4 : w8.cell? ⟨bB, 4, none⟩ = some (.int .i64 z.store) := (cell_of_row _ _ _ _ _ _ Bh8.out).trans rfl
          have cB5 : w8.cell? ⟨bB, 5, none⟩ = some (.string z.prev) := (cell_of_row _ _ _ _ _ _ Bh8.out).trans rfl
          have cB6 : w8.cell? ⟨bB, 6, none⟩ = some (.int .i64 z.e) := (cell_of_row _ _ _ _ _ _ Bh8.out).trans rfl
          have cB7 : w8.cell? ⟨bB, 7, none⟩ = some (.int .i64 z.s) := (cell_of_row _ _ _ _ _ _ Bh8.out).trans rfl
          go_upto_region 7 with fail
          have HB9 := Lib.hid (HB8.out.alloc HB8.out.size (.cells #[.int .i64 u.office, .int .i64 u.since, .int .i64 u.till, .int .i64 u.litres, .int .i64 u.e, .int .i64 u.s] 27))
          have Xh9 := Lib.hid (heap_alloc_new w8 (.cells #[.int .i64 u.office, .int .i64 u.since, .int .i64 u.till, .int .i64 u.litres, .int .i64 u.e, .int .i64 u.s] 27))
          have Ch9 := Lib.hid (blk_below Ch8.out ((Below.refl w8.heap.size w8).alloc (Nat.le_refl _) (.cells #[.int .i64 u.office, .int .i64 u.since, .int .i64 u.till, .int .i64 u.litres, .int .i64 u.e, .int .i64 u.s] 27)) (blk_lt Ch8.out))
          have Ph9 := Lib.hid (blk_below Ph8.out ((Below.refl w8.heap.size w8).alloc (Nat.le_refl _) (.cells #[.int .i64 u.office, .int .i64 u.since, .int .i64 u.till, .int .i64 u.litres, .int .i64 u.e, .int .i64 u.s] 27)) (blk_lt Ph8.out))
          have Kh9 := Lib.hid (blk_below Kh8.out ((Below.refl w8.heap.size w8).alloc (Nat.le_refl _) (.cells #[.int .i64 u.office, .int .i64 u.since, .int .i64 u.till, .int .i64 u.litres, .int .i64 u.e, .int .i64 u.s] 27)) (blk_lt Kh8.out))
          have Ah9 := Lib.hid (blk_below Ah8.out ((Below.refl w8.heap.size w8).alloc (Nat.le_refl _) (.cells #[.int .i64 u.office, .int .i64 u.since, .int .i64 u.till, .int .i64 u.litres, .int .i64 u.e, .int .i64 u.s] 27)) (blk_lt Ah8.out))
          have Bh9 := Lib.hid (blk_below Bh8.out ((Below.refl w8.heap.size w8).alloc (Nat.le_refl _) (.cells #[.int .i64 u.office, .int .i64 u.since, .int .i64 u.till, .int .i64 u.litres, .int .i64 u.e, .int .i64 u.s] 27)) (blk_lt Bh8.out))
          clear cC0 cC1 cC2 cC3 cC4 cC5 cC6 cC7 cP0 cP1 cP2 cP3 cP4 cP5 cK0 cK1 cA0 cA1 cA2 cA3 cA4 cA5 cA6 cA7 cB0 cB1 cB2 cB3 cB4 cB5 cB6 cB7
          clear HB8 Ch8 Ph8 Kh8 Ah8 Bh8
          generalize w8.heap.size = bX at *
          generalize w8.alloc (.cells #[.int .i64 u.office, .int .i64 u.since, .int .i64 u.till, .int .i64 u.litres, .int .i64 u.e, .int .i64 u.s] 27) = w9 at *
          have cC0 : w9.cell? ⟨w.heap.size, 0, none⟩ = some (.int .i64 c.office) := (cell_of_row _ _ _ _ _ _ Ch9.out).trans rfl
          have cC1 : w9.cell? ⟨w.heap.size, 1, none⟩ = some (.int .i64 c.hour) := (cell_of_row _ _ _ _ _ _ Ch9.out).trans rfl
          have cC2 : w9.cell? ⟨w.heap.size, 2, none⟩ = some (.int .i64 c.inn) := (cell_of_row _ _ _ _ _ _ Ch9.out).trans rfl
          have cC3 : w9.cell? ⟨w.heap.size, 3, none⟩ = some (.int .i64 c.out) := (cell_of_row _ _ _ _ _ _ Ch9.out).trans rfl
          have cC4 : w9.cell? ⟨w.heap.size, 4, none⟩ = some (.int .i64 c.store) := (cell_of_row _ _ _ _ _ _ Ch9.out).trans rfl
          have cC5 : w9.cell? ⟨w.heap.size, 5, none⟩ = some (.string c.prev) := (cell_of_row _ _ _ _ _ _ Ch9.out).trans rfl
          have cC6 : w9.cell? ⟨w.heap.size, 6, none⟩ = some (.int .i64 c.e) := (cell_of_row _ _ _ _ _ _ Ch9.out).trans rfl
          have cC7 : w9.cell? ⟨w.heap.size, 7, none⟩ = some (.int .i64 c.s) := (cell_of_row _ _ _ _ _ _ Ch9.out).trans rfl
          have cP0 : w9.cell? ⟨bP, 0, none⟩ = some (.int .i64 p.office) := (cell_of_row _ _ _ _ _ _ Ph9.out).trans rfl
          have cP1 : w9.cell? ⟨bP, 1, none⟩ = some (.int .i64 p.since) := (cell_of_row _ _ _ _ _ _ Ph9.out).trans rfl
          have cP2 : w9.cell? ⟨bP, 2, none⟩ = some (.int .i64 p.till) := (cell_of_row _ _ _ _ _ _ Ph9.out).trans rfl
          have cP3 : w9.cell? ⟨bP, 3, none⟩ = some (.int .i64 p.litres) := (cell_of_row _ _ _ _ _ _ Ph9.out).trans rfl
          have cP4 : w9.cell? ⟨bP, 4, none⟩ = some (.int .i64 p.e) := (cell_of_row _ _ _ _ _ _ Ph9.out).trans rfl
          have cP5 : w9.cell? ⟨bP, 5, none⟩ = some (.int .i64 p.s) := (cell_of_row _ _ _ _ _ _ Ph9.out).trans rfl
          have cK0 : w9.cell? ⟨bK, 0, none⟩ = some (.int .i64 x) := (cell_of_row _ _ _ _ _ _ Kh9.out).trans rfl
          have cK1 : w9.cell? ⟨bK, 1, none⟩ = some (.int .i64 y) := (cell_of_row _ _ _ _ _ _ Kh9.out).trans rfl
          have cA0 : w9.cell? ⟨bA, 0, none⟩ = some (.int .i64 z.office) := (cell_of_row _ _ _ _ _ _ Ah9.out).trans rfl
          have cA1 : w9.cell? ⟨bA, 1, none⟩ = some (.int .i64 z.hour) := (cell_of_row _ _ _ _ _ _ Ah9.out).trans rfl
          have cA2 : w9.cell? ⟨bA, 2, none⟩ = some (.int .i64 z.inn) := (cell_of_row _ _ _ _ _ _ Ah9.out).trans rfl
          have cA3 : w9.cell? ⟨bA, 3, none⟩ = some (.int .i64 z.out) := (cell_of_row _ _ _ _ _ _ Ah9.out).trans rfl
          have cA4 : w9.cell? ⟨bA, 4, none⟩ = some (.int .i64 z.store) := (cell_of_row _ _ _ _ _ _ Ah9.out).trans rfl
          have cA5 : w9.cell? ⟨bA, 5, none⟩ = some (.string z.prev) := (cell_of_row _ _ _ _ _ _ Ah9.out).trans rfl
          have cA6 : w9.cell? ⟨bA, 6, none⟩ = some (.int .i64 z.e) := (cell_of_row _ _ _ _ _ _ Ah9.out).trans rfl
          have cA7 : w9.cell? ⟨bA, 7, none⟩ = some (.int .i64 z.s) := (cell_of_row _ _ _ _ _ _ Ah9.out).trans rfl
          have cB0 : w9.cell? ⟨bB, 0, none⟩ = some (.int .i64 z.office) := (cell_of_row _ _ _ _ _ _ Bh9.out).trans rfl
          have cB1 : w9.cell? ⟨bB, 1, none⟩ = some (.int .i64 z.hour) := (cell_of_row _ _ _ _ _ _ Bh9.out).trans rfl
          have cB2 : w9.cell? ⟨bB, 2, none⟩ = some (.int .i64 z.inn) := (cell_of_row _ _ _ _ _ _ Bh9.out).trans rfl
          have cB3 : w9.cell? ⟨bB, 3, none⟩ = some (.int .i64 z.out) := (cell_of_row _ _ _ _ _ _ Bh9.out).trans rfl
          have cB4 : w9.cell? ⟨bB, 4, none⟩ = some (.int .i64 z.store) := (cell_of_row _ _ _ _ _ _ Bh9.out).trans rfl
          have cB5 : w9.cell? ⟨bB, 5, none⟩ = some (.string z.prev) := (cell_of_row _ _ _ _ _ _ Bh9.out).trans rfl
          have cB6 : w9.cell? ⟨bB, 6, none⟩ = some (.int .i64 z.e) := (cell_of_row _ _ _ _ _ _ Bh9.out).trans rfl
          have cB7 : w9.cell? ⟨bB, 7, none⟩ = some (.int .i64 z.s) := (cell_of_row _ _ _ _ _ _ Bh9.out).trans rfl
          have cX0 : w9.cell? ⟨bX, 0, none⟩ = some (.int .i64 u.office) := (cell_of_row _ _ _ _ _ _ Xh9.out).trans rfl
          have cX1 : w9.cell? ⟨bX, 1, none⟩ = some (.int .i64 u.since) := (cell_of_row _ _ _ _ _ _ Xh9.out).trans rfl
          have cX2 : w9.cell? ⟨bX, 2, none⟩ = some (.int .i64 u.till) := (cell_of_row _ _ _ _ _ _ Xh9.out).trans rfl
          have cX3 : w9.cell? ⟨bX, 3, none⟩ = some (.int .i64 u.litres) := (cell_of_row _ _ _ _ _ _ Xh9.out).trans rfl
          have cX4 : w9.cell? ⟨bX, 4, none⟩ = some (.int .i64 u.e) := (cell_of_row _ _ _ _ _ _ Xh9.out).trans rfl
          have cX5 : w9.cell? ⟨bX, 5, none⟩ = some (.int .i64 u.s) := (cell_of_row _ _ _ _ _ _ Xh9.out).trans rfl
          go_wp2_with fail
          refine (HF.out.rpr _).mono ?_
          rintro e w10 ⟨rfl, hb⟩
          have HB10 := Lib.hid (HB9.out.trans (hb.mono HB9.out.size))
          have Ch10 := Lib.hid (blk_below Ch9.out hb (blk_lt Ch9.out))
          have Ph10 := Lib.hid (blk_below Ph9.out hb (blk_lt Ph9.out))
          have Kh10 := Lib.hid (blk_below Kh9.out hb (blk_lt Kh9.out))
          have Ah10 := Lib.hid (blk_below Ah9.out hb (blk_lt Ah9.out))
          have Bh10 := Lib.hid (blk_below Bh9.out hb (blk_lt Bh9.out))
          have Xh10 := Lib.hid (blk_below Xh9.out hb (blk_lt Xh9.out))
          clear cC0 cC1 cC2 cC3 cC4 cC5 cC6 cC7 cP0 cP1 cP2 cP3 cP4 cP5 cK0 cK1 cA0 cA1 cA2 cA3 cA4 cA5 cA6 cA7 cB0 cB1 cB2 cB3 cB4 cB5 cB6 cB7 cX0 cX1 cX2 cX3 cX4 cX5
          clear HB9 Ch9 Ph9 Kh9 Ah9 Bh9 Xh9
          clear hb
          have cC0 : w10.cell? ⟨w.heap.size, 0, none⟩ = some (.int .i64 c.office) := (cell_of_row _ _ _ _ _ _ Ch10.out).trans rfl
          have cC1 : w10.cell? ⟨w.heap.size, 1, none⟩ = some (.int .i64 c.hour) := (cell_of_row _ _ _ _ _ _ Ch10.out).trans rfl
          have cC2 : w10.cell? ⟨w.heap.size, 2, none⟩ = some (.int .i64 c.inn) := (cell_of_row _ _ _ _ _ _ Ch10.out).trans rfl
          have cC3 : w10.cell? ⟨w.heap.size, 3, none⟩ = some (.int .i64 c.out) := (cell_of_row _ _ _ _ _ _ Ch10.out).trans rfl
          have cC4 : w10.cell? ⟨w.heap.size, 4, none⟩ = some (.int .i64 c.store) := (cell_of_row _ _ _ _ _ _ Ch10.out).trans rfl
          have cC5 : w10.cell? ⟨w.heap.size, 5, none⟩ = some (.string c.prev) := (cell_of_row _ _ _ _ _ _ Ch10.out).trans rfl
          have cC6 : w10.cell? ⟨w.heap.size, 6, none⟩ = some (.int .i64 c.e) := (cell_of_row _ _ _ _ _ _ Ch10.out).trans rfl
          have cC7 : w10.cell? ⟨w.heap.size, 7, none⟩ = some (.int .i64 c.s) := (cell_of_row _ _ _ _ _ _ Ch10.out).trans rfl
          have cP0 : w10.cell? ⟨bP, 0, none⟩ = some (.int .i64 p.office) := (cell_of_row _ _ _ _ _ _ Ph10.out).trans rfl
          have cP1 : w10.cell? ⟨bP, 1, none⟩ = some (.int .i64 p.since) := (cell_of_row _ _ _ _ _ _ Ph10.out).trans rfl
          have cP2 : w10.cell? ⟨bP, 2, none⟩ = some (.int .i64 p.till) := (cell_of_row _ _ _ _ _ _ Ph10.out).trans rfl
          have cP3 : w10.cell? ⟨bP, 3, none⟩ = some (.int .i64 p.litres) := (cell_of_row _ _ _ _ _ _ Ph10.out).trans rfl
          have cP4 : w10.cell? ⟨bP, 4, none⟩ = some (.int .i64 p.e) := (cell_of_row _ _ _ _ _ _ Ph10.out).trans rfl
          have cP5 : w10.cell? ⟨bP, 5, none⟩ = some (.int .i64 p.s) := (cell_of_row _ _ _ _ _ _ Ph10.out).trans rfl
          have cK0 : w10.cell? ⟨bK, 0, none⟩ = some (.int .i64 x) := (cell_of_row _ _ _ _ _ _ Kh10.out).trans rfl
          have cK1 : w10.cell? ⟨bK, 1, none⟩ = some (.int .i64 y) := (cell_of_row _ _ _ _ _ _ Kh10.out).trans rfl
          have cA0 : w10.cell? ⟨bA, 0, none⟩ = some (.int .i64 z.office) := (cell_of_row _ _ _ _ _ _ Ah10.out).trans rfl
          have cA1 : w10.cell? ⟨bA, 1, none⟩ = some (.int .i64 z.hour) := (cell_of_row _ _ _ _ _ _ Ah10.out).trans rfl
          have cA2 : w10.cell? ⟨bA, 2, none⟩ = some (.int .i64 z.inn) := (cell_of_row _ _ _ _ _ _ Ah10.out).trans rfl
          have cA3 : w10.cell? ⟨bA, 3, none⟩ = some (.int .i64 z.out) := (cell_of_row _ _ _ _ _ _ Ah10.out).trans rfl
          have cA4 : w10.cell? ⟨bA, 4, none⟩ = some (.int .i64 z.store) := (cell_of_row _ _ _ _ _ _ Ah10.out).trans rfl
          have cA5 : w10.cell? ⟨bA, 5, none⟩ = some (.string z.prev) := (cell_of_row _ _ _ _ _ _ Ah10.out).trans rfl
          have cA6 : w10.cell? ⟨bA, 6, none⟩ = some (.int .i64 z.e) := (cell_of_row _ _ _ _ _ _ Ah10.out).trans rfl
          have cA7 : w10.cell? ⟨bA, 7, none⟩ = some (.int .i64 z.s) := (cell_of_row _ _ _ _ _ _ Ah10.out).trans rfl
          have cB0 : w10.cell? ⟨bB, 0, none⟩ = some (.int .i64 z.office) := (cell_of_row _ _ _ _ _ _ Bh10.out).trans rfl
          have cB1 : w10.cell? ⟨bB, 1, none⟩ = some (.int .i64 z.hour) := (cell_of_row _ _ _ _ _ _ Bh10.out).trans rfl
          have cB2 : w10.cell? ⟨bB, 2, none⟩ = some (.int .i64 z.inn) := (cell_of_row _ _ _ _ _ _ Bh10.out).trans rfl
          have cB3 : w10.cell? ⟨bB, 3, none⟩ = some (.int .i64 z.out) := (cell_of_row _ _ _ _ _ _ Bh10.out).trans rfl
          have cB4 : w10.cell? ⟨bB, 4, none⟩ = some (.int .i64 z.store) := (cell_of_row _ _ _ _ _ _ Bh10.out).trans rfl
          have cB5 : w10.cell? ⟨bB, 5, none⟩ = some (.string z.prev) := (cell_of_row _ _ _ _ _ _ Bh10.out).trans rfl
          have cB6 : w10.cell? ⟨bB, 6, none⟩ = some (.int .i64 z.e) := (cell_of_row _ _ _ _ _ _ Bh10.out).trans rfl
          have cB7 : w10.cell? ⟨bB, 7, none⟩ = some (.int .i64 z.s) := (cell_of_row _ _ _ _ _ _ Bh10.out).trans rfl
          have cX0 : w10.cell? ⟨bX, 0, none⟩ = some (.int .i64 u.office) := (cell_of_row _ _ _ _ _ _ Xh10.out).trans rfl
          have cX1 : w10.cell? ⟨bX, 1, none⟩ = some (.int .i64 u.since) := (cell_of_row _ _ _ _ _ _ Xh10.out).trans rfl
          have cX2 : w10.cell? ⟨bX, 2, none⟩ = some (.int .i64 u.till) := (cell_of_row _ _ _ _ _ _ Xh10.out).trans rfl
          have cX3 : w10.cell? ⟨bX, 3, none⟩ = some (.int .i64 u.litres) := (cell_of_row _ _ _ _ _ _ Xh10.out).trans rfl
          have cX4 : w10.cell? ⟨bX, 4, none⟩ = some (.int .i64 u.e) := (cell_of_row _ _ _ _ _ _ Xh10.out).trans rfl
          have cX5 : w10.cell? ⟨bX, 5, none⟩ = some (.int .i64 u.s) := (cell_of_row _ _ _ _ _ _ Xh10.out).trans rfl
          go_upto_region 8 with fail
          have HB11 := Lib.hid (HB10.out.alloc HB10.out.size (.cells #[.int .i64 u.office, .int .i64 u.since, .int .i64 u.till, .int .i64 u.litres, .int .i64 u.e, .int .i64 u.s] 27))
          have Yh11 := Lib.hid (heap_alloc_new w10 (.cells #[.int .i64 u.office, .int .i64 u.since, .int .i64 u.till, .int .i64 u.litres, .int .i64 u.e, .int .i64 u.s] 27))
          have Ch11 := Lib.hid (blk_below Ch10.out ((Below.refl w10.heap.size w10).alloc (Nat.le_refl _) (.cells #[.int .i64 u.office, .int .i64 u.since, .int .i64 u.till, .int .i64 u.litres, .int .i64 u.e, .int .i64 u.s] 27)) (blk_lt Ch10.out))
          have Ph11 := Lib.hid (blk_below Ph10.out ((Below.refl w10.heap.size w10).alloc (Nat.le_refl _) (.cells #[.int .i64 u.office, .int .i64 u.since, .int .i64 u.till, .int .i64 u.litres, .int .i64 u.e, .int .i64 u.s] 27)) (blk_lt Ph10.out))
          have Kh11 := Lib.hid (blk_below Kh10.out ((Below.refl w10.heap.size w10).alloc (Nat.le_refl _) (.cells #[.int .i64 u.office, .int .i64 u.since, .int .i64 u.till, .int .i64 u.litres, .int .i64 u.e, .int .i64 u.s] 27)) (blk_lt Kh10.out))
          have Ah11 := Lib.hid (blk_below Ah10.out ((Below.refl w10.heap.size w10).alloc (Nat.le_refl _) (.cells #[.int .i64 u.office, .int .i64 u.since, .int .i64 u.till, .int .i64 u.litres, .int .i64 u.e, .int .i64 u.s] 27)) (blk_lt Ah10.out))
          have Bh11 := Lib.hid (blk_below Bh10.out ((Below.refl w10.heap.size w10).alloc (Nat.le_refl _) (.cells #[.int .i64 u.office, .int .i64 u.since, .int .i64 u.till, .int .i64 u.litres, .int .i64 u.e, .int .i64 u.s] 27)) (blk_lt Bh10.out))
          have Xh11 := Lib.hid (blk_below Xh10.out ((Below.refl w10.heap.size w10).alloc (Nat.le_refl _) (.cells #[.int .i64 u.office, .int .i64 u.since, .int .i64 u.till, .int .i64 u.litres, .int .i64 u.e, .int .i64 u.s] 27)) (blk_lt Xh10.out))
          clear cC0 cC1 cC2 cC3 cC4 cC5 cC6 cC7 cP0 cP1 cP2 cP3 cP4 cP5 cK0 cK1 cA0 cA1 cA2 cA3 cA4 cA5 cA6 cA7 cB0 cB1 cB2 cB3 cB4 cB5 cB6 cB7 cX0 cX1 cX2 cX3 cX4 cX5
          clear HB10 Ch10 Ph10 Kh10 Ah10 Bh10 Xh10
          generalize w10.heap.size = bY at *
          generalize w10.alloc (.cells #[.int .i64 u.office, .int .i64 u.since, .int .i64 u.till, .int .i64 u.litres, .int .i64 u.e, .int .i64 u.s] 27) = w11 at *
          have cC0 : w11.cell? ⟨w.heap.size, 0, none⟩ = some (.int .i64 c.office) := (cell_of_row _ _ _ _ _ _ Ch11.out).trans rfl
          have cC1 : w11.cell? ⟨w.heap.size, 1, none⟩ = some (.int .i64 c.hour) := (cell_of_row _ _ _ _ _ _ Ch11.out).trans rfl
          have cC2 : w11.cell? ⟨w.heap.size, 2, none⟩ = some (.int .i64 c.inn) := (cell_of_row _ _ _ _ _ _ Ch11.out).trans rfl
          have cC3 : w11.cell? ⟨w.heap.size, 3, none⟩ = some (.int .i64 c.out) := (cell_of_row _ _ _ _ _ _ Ch11.out).trans rfl
          have cC4 : w11.cell? ⟨w.heap.size, 4, none⟩ = some (.int .i64 c.store) := (cell_of_row _ _ _ _ _ _ Ch11.out).trans rfl
          have cC5 : w11.cell? ⟨w.heap.size, 5, none⟩ = some (.string c.prev) := (cell_of_row _ _ _ _ _ _ Ch11.out).trans rfl
          have cC6 : w11.cell? ⟨w.heap.size, 6, none⟩ = some (.int .i64 c.e) := (cell_of_row _ _ _ _ _ _ Ch11.out).trans rfl
          have cC7 : w11.cell? ⟨w.heap.size, 7, none⟩ = some (.int .i64 c.s) := (cell_of_row _ _ _ _ _ _ Ch11.out).trans rfl
          have cP0 : w11.cell? ⟨bP, 0, none⟩ = some (.int .i64 p.office) := (cell_of_row _ _ _ _ _ _ Ph11.out).trans rfl
          have cP1 : w11.cell? ⟨bP, 1, none⟩ = some (.int .i64 p.since) := (cell_of_row _ _ _ _ _ _ Ph11.out).trans rfl
          have cP2 : w11.cell? ⟨bP, 2, none⟩ = some (.int .i64 p.till) := (cell_of_row _ _ _ _ _ _ Ph11.out).trans rfl
          have cP3 : w11.cell? ⟨bP, 3, none⟩ = some (.int .i64 p.litres) := (cell_of_row _ _ _ _ _ _ Ph11.out).trans rfl
          have cP4 : w11.cell? ⟨bP, 4, none⟩ = some (.int .i64 p.e) := (cell_of_row _ _ _ _ _ _ Ph11.out).trans rfl
          have cP5 : w11.cell? ⟨bP, 5, none⟩ = some (.int .i64 p.s) := (cell_of_row _ _ _ _ _ _ Ph11.out).trans rfl
          have cK0 : w11.cell? ⟨bK, 0, none⟩ = some (.int .i64 x) := (cell_of_row _ _ _ _ _ _ Kh11.out).trans rfl
          have cK1 : w11.cell? ⟨bK, 1, none⟩ = some (.int .i64 y) := (cell_of_row _ _ _ _ _ _ Kh11.out).trans rfl
          have cA0 : w11.cell? ⟨bA, 0, none⟩ = some (.int .i64 z.office) := (cell_of_row _ _ _ _ _ _ Ah11.out).trans rfl
          have cA1 : w11.cell? ⟨bA, 1, none⟩ = some (.int .i64 z.hour) := (cell_of_row _ _ _ _ _ _ Ah11.out).trans rfl
          have cA2 : w11.cell? ⟨bA, 2, none⟩ = some (.int .i64 z.inn) := (cell_of_row _ _ _ _ _ _ Ah11.out).trans rfl
          have cA3 : w11.cell? ⟨bA, 3, none⟩ = some (.int .i64 z.out) := (cell_of_row _ _ _ _ _ _ Ah11.out).trans rfl
          have cA4 : w11.cell? ⟨bA, 4, none⟩ = some (.int .i64 z.store) := (cell_of_row _ _ _ _ _ _ Ah11.out).trans rfl
          have cA5 : w11.cell? ⟨bA, 5, none⟩ = some (.string z.prev) := (cell_of_row _ _ _ _ _ _ Ah11.out).trans rfl
          have cA6 : w11.cell? ⟨bA, 6, none⟩ = some (.int .i64 z.e) := (cell_of_row _ _ _ _ _ _ Ah11.out).trans rfl
          have cA7 : w11.cell? ⟨bA, 7, none⟩ = some (.int .i64 z.s) := (cell_of_row _ _ _ _ _ _ Ah11.out).trans rfl
          have cB0 : w11.cell? ⟨bB, 0, none⟩ = some (.int .i64 z.office) := (cell_of_row _ _ _ _ _ _ Bh11.out).trans rfl
          have cB1 : w11.cell? ⟨bB, 1, none⟩ = some (.int .i64 z.hour) := (cell_of_row _ _ _ _ _ _ Bh11.out).trans rfl
          have cB2 : w11.cell? ⟨bB, 2, none⟩ = some (.int .i64 z.inn) := (cell_of_row _ _ _ _ _ _ Bh11.out).trans rfl
          have cB3 : w11.cell? ⟨bB, 3, none⟩ = some (.int .i64 z.out) := (cell_of_row _ _ _ _ _ _ Bh11.out).trans rfl
          have cB4 : w11.cell? ⟨bB, 4, none⟩ = some (.int .i64 z.store) := (cell_of_row _ _ _ _ _ _ Bh11.out).trans rfl
          have cB5 : w11.cell? ⟨bB, 5, none⟩ = some (.string z.prev) := (cell_of_row _ _ _ _ _ _ Bh11.out).trans rfl
          have cB6 : w11.cell? ⟨bB, 6, none⟩ = some (.int .i64 z.e) := (cell_of_row _ _ _ _ _ _ Bh11.out).trans rfl
          have cB7 : w11.cell? ⟨bB, 7, none⟩ = some (.int .i64 z.s) := (cell_of_row _ _ _ _ _ _ Bh11.out).trans rfl
          have cX0 : w11.cell? ⟨bX, 0, none⟩ = some (.int .i64 u.office) := (cell_of_row _ _ _ _ _ _ Xh11.out).trans rfl
          have cX1 : w11.cell? ⟨bX, 1, none⟩ = some (.int .i64 u.since) := (cell_of_row _ _ _ _ _ _ Xh11.out).trans rfl
          have cX2 : w11.cell? ⟨bX, 2, none⟩ = some (.int .i64 u.till) := (cell_of_row _ _ _ _ _ _ Xh11.out).trans rfl
          have cX3 : w11.cell? ⟨bX, 3, none⟩ = some (.int .i64 u.litres) := (cell_of_row _ _ _ _ _ _ Xh11.out).trans rfl
          have cX4 : w11.cell? ⟨bX, 4, none⟩ = some (.int .i64 u.e) := (cell_of_row _ _ _ _ _ _ Xh11.out).trans rfl
          have cX5 : w11.cell? ⟨bX, 5, none⟩ = some (.int .i64 u.s) := (cell_of_row _ _ _ _ _ _ Xh11.out).trans rfl
          have cY0 : w11.cell? ⟨bY, 0, none⟩ = some (.int .i64 u.office) := (cell_of_row _ _ _ _ _ _ Yh11.out).trans rfl
          have cY1 : w11.cell? ⟨bY, 1, none⟩ = some (.int .i64 u.since) := (cell_of_row _ _ _ _ _ _ Yh11.out).trans rfl
          have cY2 : w11.cell? ⟨bY, 2, none⟩ = some (.int .i64 u.till) := (cell_of_row _ _ _ _ _ _ Yh11.out).trans rfl
          have cY3 : w11.cell? ⟨bY, 3, none⟩ = some (.int .i64 u.litres) := (cell_of_row _ _ _ _ _ _ Yh11.out).trans rfl
          have cY4 : w11.cell? ⟨bY, 4, none⟩ = some (.int .i64 u.e) := (cell_of_row _ _ _ _ _ _ Yh11.out).trans rfl
          have cY5 : w11.cell? ⟨bY, 5, none⟩ = some (.int .i64 u.s) := (cell_of_row _ _ _ _ _ _ Yh11.out).trans rfl
          go_upto_region 10 with fail
          clear cC0 cC1 cC2 cC3 cC4 cC5 cC6 cC7 cP0 cP1 cP2 cP3 cP4 cP5 cK0 cK1 cA0 cA1 cA2 cA3 cA4 cA5 cA6 cA7 cB0 cB1 cB2 cB3 cB4 cB5 cB6 cB7 cX0 cX1 cX2 cX3 cX4 cX5 cY0 cY1 cY2 cY3 cY4 cY5
          have HS0 : Hid (w11.drew.heap[w.heap.size]? = some (.cells #[.int .i64 c.office, .int .i64 c.hour, .int .i64 c.inn, .int .i64 c.out, .int .i64 c.store, .string c.prev, .int .i64 c.e, .int .i64 c.s] 25) ∧ w11.drew.heap[bP]? = some (.cells #[.int .i64 p.office, .int .i64 p.since, .int .i64 p.till, .int .i64 p.litres, .int .i64 p.e, .int .i64 p.s] 27) ∧ w11.drew.heap[bK]? = some (.cells #[.int .i64 x, .int .i64 y] 29) ∧ w11.drew.cell? ⟨w.heap.size, 0, none⟩ = some (.int .i64 c.office) ∧ w11.drew.cell? ⟨w.heap.size, 1, none⟩ = some (.int .i64 c.hour) ∧ w11.drew.cell? ⟨w.heap.size, 2, none⟩ = some (.int .i64 c.inn) ∧ w11.drew.cell? ⟨w.heap.size, 3, none⟩ = some (.int .i64 c.out) ∧ w11.drew.cell? ⟨w.heap.size, 4, none⟩ = some (.int .i64 c.store) ∧ w11.drew.cell? ⟨w.heap.size, 5, none⟩ = some (.string c.prev) ∧ w11.drew.cell? ⟨w.heap.size, 6, none⟩ = some (.int .i64 c.e) ∧ w11.drew.cell? ⟨w.heap.size, 7, none⟩ = some (.int .i64 c.s) ∧ w11.drew.cell? ⟨bP, 0, none⟩ = some (.int .i64 p.office) ∧ w11.drew.cell? ⟨bP, 1, none⟩ = some (.int .i64 p.since) ∧ w11.drew.cell? ⟨bP, 2, none⟩ = some (.int .i64 p.till) ∧ w11.drew.cell? ⟨bP, 3, none⟩ = some (.int .i64 p.litres) ∧ w11.drew.cell? ⟨bP, 4, none⟩ = some (.int .i64 p.e) ∧ w11.drew.cell? ⟨bP, 5, none⟩ = some (.int .i64 p.s) ∧ w11.drew.cell? ⟨bK, 0, none⟩ = some (.int .i64 x) ∧ w11.drew.cell? ⟨bK, 1, none⟩ = some (.int .i64 y) ∧ Below w.heap.size w w11.drew) := Lib.hid ⟨Ch11.out, Ph11.out, Kh11.out, (cell_of_row _ _ _ _ _ _ Ch11.out).trans rfl, (cell_of_row _ _ _ _ _ _ Ch11.out).trans rfl, (cell_of_row _ _ _ _ _ _ Ch11.out).trans rfl, (cell_of_row _ _ _ _ _ _ Ch11.out).trans rfl, (cell_of_row _ _ _ _ _ _ Ch11.out).trans rfl, (cell_of_row _ _ _ _ _ _ Ch11.out).trans rfl, (cell_of_row _ _ _ _ _ _ Ch11.out).trans rfl, (cell_of_row _ _ _ _ _ _ Ch11.out).trans rfl, (cell_of_row _ _ _ _ _ _ Ph11.out).trans rfl, (cell_of_row _ _ _ _ _ _ Ph11.out).trans rfl, (cell_of_row _ _ _ _ _ _ Ph11.out).trans rfl, (cell_of_row _ _ _ _ _ _ Ph11.out).trans rfl, (cell_of_row _ _ _ _ _ _ Ph11.out).trans rfl, (cell_of_row _ _ _ _ _ _ Ph11.out).trans rfl, (cell_of_row _ _ _ _ _ _ Kh11.out).trans rfl, (cell_of_row _ _ _ _ _ _ Kh11.out).trans rfl, HB11.out.drew⟩
          clear HB11 Ch11 Ph11 Kh11 Ah11 Bh11 Xh11 Yh11
          refine wp_region_noPanic ?_
          refine wp_region_held_drew (S := fun w' => w'.heap[w.heap.size]? = some (.cells #[.int .i64 c.office, .int .i64 c.hour, .int .i64 c.inn, .int .i64 c.out, .int .i64 c.store, .string c.prev, .int .i64 c.e, .int .i64 c.s] 25) ∧ w'.heap[bP]? = some (.cells #[.int .i64 p.office, .int .i64 p.since, .int .i64 p.till, .int .i64 p.litres, .int .i64 p.e, .int .i64 p.s] 27) ∧ w'.heap[bK]? = some (.cells #[.int .i64 x, .int .i64 y] 29) ∧ w'.cell? ⟨w.heap.size, 0, none⟩ = some (.int .i64 c.office) ∧ w'.cell? ⟨w.heap.size, 1, none⟩ = some (.int .i64 c.hour) ∧ w'.cell? ⟨w.heap.size, 2, none⟩ = some (.int .i64 c.inn) ∧ w'.cell? ⟨w.heap.size, 3, none⟩ = some (.int .i64 c.out) ∧ w'.cell? ⟨w.heap.size, 4, none⟩ = some (.int .i64 c.store) ∧ w'.cell? ⟨w.heap.size, 5, none⟩ = some (.string c.prev) ∧ w'.cell? ⟨w.heap.size, 6, none⟩ = some (.int .i64 c.e) ∧ w'.cell? ⟨w.heap.size, 7, none⟩ = some (.int .i64 c.s) ∧ w'.cell? ⟨bP, 0, none⟩ = some (.int .i64 p.office) ∧ w'.cell? ⟨bP, 1, none⟩ = some (.int .i64 p.since) ∧ w'.cell? ⟨bP, 2, none⟩ = some (.int .i64 p.till) ∧ w'.cell? ⟨bP, 3, none⟩ = some (.int .i64 p.litres) ∧ w'.cell? ⟨bP, 4, none⟩ = some (.int .i64 p.e) ∧ w'.cell? ⟨bP, 5, none⟩ = some (.int .i64 p.s) ∧ w'.cell? ⟨bK, 0, none⟩ = some (.int .i64 x) ∧ w'.cell? ⟨bK, 1, none⟩ = some (.int .i64 y) ∧ Below w.heap.size w w') (by kernel_rfl) HS0.out (fun hHeld => ?_)
          refine' wpAnyH_take (i := 0) (v := _) (by simp only [List.getElem?_toArray, List.getElem?_cons_succ, List.getElem?_cons_zero]; exact rfl) (by kernel_rfl) (by kernel_rfl) (by kernel_rfl) (fun _ _ _ h => h) (Or.inl ⟨by rfl, ?y0x1⟩) hHeld ?r0x1
          case y0x1 => (intro w hSw; (try dsimp only at hSw); go_simp; try with_reducible rfl)
          try simp only [Act.put, List.setIfInBounds_toArray, List.set_cons_zero, List.set_cons_succ]
          refine' wpAnyH_take (i := 2) (v := _) (by simp only [List.getElem?_toArray, List.getElem?_cons_succ, List.getElem?_cons_zero]; exact rfl) (by kernel_rfl) (by kernel_rfl) (by kernel_rfl) (fun _ _ _ h => h) (Or.inl ⟨by rfl, ?y2x2⟩) hHeld ?r2x2
          case y2x2 => (intro w hSw; (try dsimp only at hSw); go_simp; try with_reducible rfl)
          try simp only [Act.put, List.setIfInBounds_toArray, List.set_cons_zero, List.set_cons_succ]
          refine wpAnyH_ready (rs := [1]) (by kernel_rfl) (by simp) ?_
          refine AllReadyH.cons (by simp only [List.getElem?_toArray, List.getElem?_cons_succ, List.getElem?_cons_zero]; exact rfl) (fun K hK => ?_) AllReadyH.nil
          go_simp
          refine (HF.out.co _ (HM.out.up hHeld.2.2.2.2.2.2.2.2.2.2.2.2.2.2.2.2.2.2.2)).mono ?_
          rintro e w' ⟨rfl, hb⟩
          refine hK.out _ _ (tells_step hHeld hb) (fun hHeld => ?_)
          clear hK K hb
          try simp only [Act.put, List.setIfInBounds_toArray, List.set_cons_zero, List.set_cons_succ]
          refine wpAnyH_ready (rs := [3]) (by kernel_rfl) (by simp) ?_
          refine AllReadyH.cons (by simp only [List.getElem?_toArray, List.getElem?_cons_succ, List.getElem?_cons_zero]; exact rfl) (fun K hK => ?_) AllReadyH.nil
          go_simp
          refine (HF.out.rco _).mono ?_
          rintro e w' ⟨rfl, hb⟩
          refine hK.out _ _ (tells_step hHeld hb) (fun hHeld => ?_)
          clear hK K hb
          try simp only [Act.put, List.setIfInBounds_toArray, List.set_cons_zero, List.set_cons_succ]
          refine' wpAnyH_take (i := 4) (v := _) (by simp only [List.getElem?_toArray, List.getElem?_cons_succ, List.getElem?_cons_zero]; exact rfl) (by kernel_rfl) (by kernel_rfl) (by kernel_rfl) (fun _ _ _ h => h) (Or.inl ⟨by rfl, ?y4x3⟩) hHeld ?r4x3
          case y4x3 => (intro w hSw; (try dsimp only at hSw); go_simp; try with_reducible rfl)
          try simp only [Act.put, List.setIfInBounds_toArray, List.set_cons_zero, List.set_cons_succ]
          refine' wpAnyH_take (i := 5) (v := _) (by simp only [List.getElem?_toArray, List.getElem?_cons_succ, List.getElem?_cons_zero]; exact rfl) (by kernel_rfl) (by kernel_rfl) (by kernel_rfl) (fun _ _ _ h => h) (Or.inl ⟨by rfl, ?y5x4⟩) hHeld ?r5x4
          case y5x4 => (intro w hSw; (try dsimp only at hSw); go_simp; try with_reducible rfl)
          try simp only [Act.put, List.setIfInBounds_toArray, List.set_cons_zero, List.set_cons_succ]
          refine' wpAnyH_take (i := 6) (v := _) (by simp only [List.getElem?_toArray, List.getElem?_cons_succ, List.getElem?_cons_zero]; exact rfl) (by kernel_rfl) (by kernel_rfl) (by kernel_rfl) (fun _ _ _ h => h) (Or.inl ⟨by rfl, ?y6x5⟩) hHeld ?r6x5
          case y6x5 => (intro w hSw; (try dsimp only at hSw); go_simp; try with_reducible rfl)
          try simp only [Act.put, List.setIfInBounds_toArray, List.set_cons_zero, List.set_cons_succ]
          refine' wpAnyH_take (i := 8) (v := _) (by simp only [List.getElem?_toArray, List.getElem?_cons_succ, List.getElem?_cons_zero]; exact rfl) (by kernel_rfl) (by kernel_rfl) (by kernel_rfl) (fun _ _ _ h => h) (Or.inl ⟨by rfl, ?y8x6⟩) hHeld ?r8x6
          case y8x6 => (intro w hSw; (try dsimp only at hSw); go_simp; try with_reducible rfl)
          try simp only [Act.put, List.setIfInBounds_toArray, List.set_cons_zero, List.set_cons_succ]
          refine wpAnyH_ready (rs := [7]) (by kernel_rfl) (by simp) ?_
          refine AllReadyH.cons (by simp only [List.getElem?_toArray, List.getElem?_cons_succ, List.getElem?_cons_zero]; exact rfl) (fun K hK => ?_) AllReadyH.nil
          go_simp
          refine (HF.out.by_ _ (HM.out.up hHeld.2.2.2.2.2.2.2.2.2.2.2.2.2.2.2.2.2.2.2)).mono ?_
          rintro e w' ⟨rfl, hb⟩
          refine hK.out _ _ (tells_step hHeld hb) (fun hHeld => ?_)
          clear hK K hb
          try simp only [Act.put, List.setIfInBounds_toArray, List.set_cons_zero, List.set_cons_succ]
          refine wpAnyH_ready (rs := [9]) (by kernel_rfl) (by simp) ?_
          refine AllReadyH.cons (by simp only [List.getElem?_toArray, List.getElem?_cons_succ, List.getElem?_cons_zero]; exact rfl) (fun K hK => ?_) AllReadyH.nil
          go_simp
          refine (HF.out.rby_ _).mono ?_
          rintro e w' ⟨rfl, hb⟩
          refine hK.out _ _ (tells_step hHeld hb) (fun hHeld => ?_)
          clear hK K hb
          try simp only [Act.put, List.setIfInBounds_toArray, List.set_cons_zero, List.set_cons_succ]
          refine' wpAnyH_take (i := 10) (v := _) (by simp only [List.getElem?_toArray, List.getElem?_cons_succ, List.getElem?_cons_zero]; exact rfl) (by kernel_rfl) (by kernel_rfl) (by kernel_rfl) (fun _ _ _ h => h) (Or.inl ⟨by rfl, ?y10x7⟩) hHeld ?r10x7
          case y10x7 => (intro w hSw; (try dsimp only at hSw); go_simp; try with_reducible rfl)
          try simp only [Act.put, List.setIfInBounds_toArray, List.set_cons_zero, List.set_cons_succ]
          refine' wpAnyH_take (i := 11) (v := _) (by simp only [List.getElem?_toArray, List.getElem?_cons_succ, List.getElem?_cons_zero]; exact rfl) (by kernel_rfl) (by kernel_rfl) (by kernel_rfl) (fun _ _ _ h => h) (Or.inl ⟨by rfl, ?y11x8⟩) hHeld ?r11x8
          case y11x8 => (intro w hSw; (try dsimp only at hSw); go_simp; try with_reducible rfl)
          try simp only [Act.put, List.setIfInBounds_toArray, List.set_cons_zero, List.set_cons_succ]
          refine' wpAnyH_take (i := 12) (v := _) (by simp only [List.getElem?_toArray, List.getElem?_cons_succ, List.getElem?_cons_zero]; exact rfl) (by kernel_rfl) (by kernel_rfl) (by kernel_rfl) (fun _ _ _ h => h) (Or.inl ⟨by rfl, ?y12x9⟩) hHeld ?r12x9
          case y12x9 => (intro w hSw; (try dsimp only at hSw); go_simp; try with_reducible rfl)
          try simp only [Act.put, List.setIfInBounds_toArray, List.set_cons_zero, List.set_cons_succ]
          refine' wpAnyH_take (i := 13) (v := _) (by simp only [List.getElem?_toArray, List.getElem?_cons_succ, List.getElem?_cons_zero]; exact rfl) (by kernel_rfl) (by kernel_rfl) (by kernel_rfl) (fun _ _ _ h => h) (Or.inl ⟨by rfl, ?y13x10⟩) hHeld ?r13x10
          case y13x10 => (intro w hSw; (try dsimp only at hSw); go_simp; try with_reducible rfl)
          try simp only [Act.put, List.setIfInBounds_toArray, List.set_cons_zero, List.set_cons_succ]
          refine' wpAnyH_take (i := 15) (v := _) (by simp only [List.getElem?_toArray, List.getElem?_cons_succ, List.getElem?_cons_zero]; exact rfl) (by kernel_rfl) (by kernel_rfl) (by kernel_rfl) (fun _ _ _ h => h) (Or.inl ⟨by rfl, ?y15x11⟩) hHeld ?r15x11
          case y15x11 => (intro w hSw; (try dsimp only at hSw); go_simp; try with_reducible rfl)
          try simp only [Act.put, List.setIfInBounds_toArray, List.set_cons_zero, List.set_cons_succ]
          refine wpAnyH_ready (rs := [14]) (by kernel_rfl) (by simp) ?_
          refine AllReadyH.cons (by simp only [List.getElem?_toArray, List.getElem?_cons_succ, List.getElem?_cons_zero]; exact rfl) (fun K hK => ?_) AllReadyH.nil
          go_simp
          refine (HF.out.dg _ (HG.out.below hHeld.2.2.2.2.2.2.2.2.2.2.2.2.2.2.2.2.2.2.2 HG.out.size) (HM.out.up hHeld.2.2.2.2.2.2.2.2.2.2.2.2.2.2.2.2.2.2.2)).mono ?_
          rintro e w' ⟨rfl, hb⟩
          refine hK.out _ _ (tells_step hHeld hb) (fun hHeld => ?_)
          clear hK K hb
          try simp only [Act.put, List.setIfInBounds_toArray, List.set_cons_zero, List.set_cons_succ]
          refine wpAnyH_ready (rs := [16]) (by kernel_rfl) (by simp) ?_
          refine AllReadyH.cons (by simp only [List.getElem?_toArray, List.getElem?_cons_succ, List.getElem?_cons_zero]; exact rfl) (fun K hK => ?_) AllReadyH.nil
          go_simp
          refine (HF.out.rdg _).mono ?_
          rintro e w' ⟨rfl, hb⟩
          refine hK.out _ _ (tells_step hHeld hb) (fun hHeld => ?_)
          clear hK K hb
          try simp only [Act.put, List.setIfInBounds_toArray, List.set_cons_zero, List.set_cons_succ]
          refine' wpAnyH_take (i := 17) (v := _) (by simp only [List.getElem?_toArray, List.getElem?_cons_succ, List.getElem?_cons_zero]; exact rfl) (by kernel_rfl) (by kernel_rfl) (by kernel_rfl) (fun _ _ _ h => h) (Or.inl ⟨by rfl, ?y17x12⟩) hHeld ?r17x12
          case y17x12 => (intro w hSw; (try dsimp only at hSw); go_simp; try with_reducible rfl)
          try simp only [Act.put, List.setIfInBounds_toArray, List.set_cons_zero, List.set_cons_succ]
          refine' wpAnyH_take (i := 18) (v := _) (by simp only [List.getElem?_toArray, List.getElem?_cons_succ, List.getElem?_cons_zero]; exact rfl) (by kernel_rfl) (by kernel_rfl) (by kernel_rfl) (fun _ _ _ h => h) (Or.inl ⟨by rfl, ?y18x13⟩) hHeld ?r18x13
          case y18x13 => (intro w hSw; (try dsimp only at hSw); go_simp; try with_reducible rfl)
          try simp only [Act.put, List.setIfInBounds_toArray, List.set_cons_zero, List.set_cons_succ]
          refine' wpAnyH_take (i := 19) (v := _) (by simp only [List.getElem?_toArray, List.getElem?_cons_succ, List.getElem?_cons_zero]; exact rfl) (by kernel_rfl) (by kernel_rfl) (by kernel_rfl) (fun _ _ _ h => h) (Or.inl ⟨by rfl, ?y19x14⟩) hHeld ?r19x14
          case y19x14 => (intro w hSw; (try dsimp only at hSw); go_simp; try with_reducible rfl)
          try simp only [Act.put, List.setIfInBounds_toArray, List.set_cons_zero, List.set_cons_succ]
          refine' wpAnyH_take (i := 20) (v := _) (by simp only [List.getElem?_toArray, List.getElem?_cons_succ, List.getElem?_cons_zero]; exact rfl) (by kernel_rfl) (by kernel_rfl) (by kernel_rfl) (fun _ _ _ h => h) (Or.inl ⟨by rfl, ?y20x15⟩) hHeld ?r20x15
          case y20x15 => (intro w hSw; (try dsimp only at hSw); go_simp; try with_reducible rfl)
          try simp only [Act.put, List.setIfInBounds_toArray, List.set_cons_zero, List.set_cons_succ]
          refine' wpAnyH_take (i := 22) (v := _) (by simp only [List.getElem?_toArray, List.getElem?_cons_succ, List.getElem?_cons_zero]; exact rfl) (by kernel_rfl) (by kernel_rfl) (by kernel_rfl) (fun _ _ _ h => h) (Or.inl ⟨by rfl, ?y22x16⟩) hHeld ?r22x16
          case y22x16 => (intro w hSw; (try dsimp only at hSw); go_simp; try with_reducible rfl)
          try simp only [Act.put, List.setIfInBounds_toArray, List.set_cons_zero, List.set_cons_succ]
          refine wpAnyH_ready (rs := [21]) (by kernel_rfl) (by simp) ?_
          refine AllReadyH.cons (by simp only [List.getElem?_toArray, List.getElem?_cons_succ, List.getElem?_cons_zero]; exact rfl) (fun K hK => ?_) AllReadyH.nil
          go_simp
          refine (HF.out.pb _).mono ?_
          rintro e w' ⟨rfl, hb⟩
          refine hK.out _ _ (tells_step hHeld hb) (fun hHeld => ?_)
          clear hK K hb
          try simp only [Act.put, List.setIfInBounds_toArray, List.set_cons_zero, List.set_cons_succ]
          refine wpAnyH_ready (rs := [23]) (by kernel_rfl) (by simp) ?_
          refine AllReadyH.cons (by simp only [List.getElem?_toArray, List.getElem?_cons_succ, List.getElem?_cons_zero]; exact rfl) (fun K hK => ?_) AllReadyH.nil
          go_simp
          refine (HF.out.rpb _).mono ?_
          rintro e w' ⟨rfl, hb⟩
          refine hK.out _ _ (tells_step hHeld hb) (fun hHeld => ?_)
          clear hK K hb
          try simp only [Act.put, List.setIfInBounds_toArray, List.set_cons_zero, List.set_cons_succ]
          refine' wpAnyH_take (i := 24) (v := _) (by simp only [List.getElem?_toArray, List.getElem?_cons_succ, List.getElem?_cons_zero]; exact rfl) (by kernel_rfl) (by kernel_rfl) (by kernel_rfl) (fun _ _ _ h => h) (Or.inl ⟨by rfl, ?y24x17⟩) hHeld ?r24x17
          case y24x17 => (intro w hSw; (try dsimp only at hSw); go_simp; try with_reducible rfl)
          try simp only [Act.put, List.setIfInBounds_toArray, List.set_cons_zero, List.set_cons_succ]
          refine' wpAnyH_take (i := 25) (v := _) (by simp only [List.getElem?_toArray, List.getElem?_cons_succ, List.getElem?_cons_zero]; exact rfl) (by kernel_rfl) (by kernel_rfl) (by kernel_rfl) (fun _ _ _ h => h) (Or.inl ⟨by rfl, ?y25x18⟩) hHeld ?r25x18
          case y25x18 => (intro w hSw; (try dsimp only at hSw); go_simp; try with_reducible rfl)
          try simp only [Act.put, List.setIfInBounds_toArray, List.set_cons_zero, List.set_cons_succ]
          refine wpAnyH_done (by kernel_rfl) ?_ _
          refine NoPanic.normal ?_
          have HS1 := Lib.hid (tells_stepN hHeld 1)
          clear HS0 hHeld
          go_upto_region 12 with fail
          refine wp_region_noPanic ?_
          refine wp_region_held_drew (S := fun w' => w'.heap[w.heap.size]? = some (.cells #[.int .i64 c.office, .int .i64 c.hour, .int .i64 c.inn, .int .i64 c.out, .int .i64 c.store, .string c.prev, .int .i64 c.e, .int .i64 c.s] 25) ∧ w'.heap[bP]? = some (.cells #[.int .i64 p.office, .int .i64 p.since, .int .i64 p.till, .int .i64 p.litres, .int .i64 p.e, .int .i64 p.s] 27) ∧ w'.heap[bK]? = some (.cells #[.int .i64 x, .int .i64 y] 29) ∧ w'.cell? ⟨w.heap.size, 0, none⟩ = some (.int .i64 c.office) ∧ w'.cell? ⟨w.heap.size, 1, none⟩ = some (.int .i64 c.hour) ∧ w'.cell? ⟨w.heap.size, 2, none⟩ = some (.int .i64 c.inn) ∧ w'.cell? ⟨w.heap.size, 3, none⟩ = some (.int .i64 c.out) ∧ w'.cell? ⟨w.heap.size, 4, none⟩ = some (.int .i64 c.store) ∧ w'.cell? ⟨w.heap.size, 5, none⟩ = some (.string c.prev) ∧ w'.cell? ⟨w.heap.size, 6, none⟩ = some (.int .i64 c.e) ∧ w'.cell? ⟨w.heap.size, 7, none⟩ = some (.int .i64 c.s) ∧ w'.cell? ⟨bP, 0, none⟩ = some (.int .i64 p.office) ∧ w'.cell? ⟨bP, 1, none⟩ = some (.int .i64 p.since) ∧ w'.cell? ⟨bP, 2, none⟩ = some (.int .i64 p.till) ∧ w'.cell? ⟨bP, 3, none⟩ = some (.int .i64 p.litres) ∧ w'.cell? ⟨bP, 4, none⟩ = some (.int .i64 p.e) ∧ w'.cell? ⟨bP, 5, none⟩ = some (.int .i64 p.s) ∧ w'.cell? ⟨bK, 0, none⟩ = some (.int .i64 x) ∧ w'.cell? ⟨bK, 1, none⟩ = some (.int .i64 y) ∧ Below w.heap.size w w') (by kernel_rfl) HS1.out (fun hHeld => ?_)
          refine' wpAnyH_take (i := 0) (v := _) (by simp only [List.getElem?_toArray, List.getElem?_cons_succ, List.getElem?_cons_zero]; exact rfl) (by kernel_rfl) (by kernel_rfl) (by kernel_rfl) (fun _ _ _ h => h) (Or.inl ⟨by rfl, ?y0x19⟩) hHeld ?r0x19
          case y0x19 => (intro w hSw; (try dsimp only at hSw); go_simp; try with_reducible rfl)
          try simp only [Act.put, List.setIfInBounds_toArray, List.set_cons_zero, List.set_cons_succ]
          refine' wpAnyH_take (i := 1) (v := _) (by simp only [List.getElem?_toArray, List.getElem?_cons_succ, List.getElem?_cons_zero]; exact rfl) (by kernel_rfl) (by kernel_rfl) (by kernel_rfl) (fun _ _ _ h => h) (Or.inl ⟨by rfl, ?y1x20⟩) hHeld ?r1x20
          case y1x20 => (intro w hSw; (try dsimp only at hSw); go_simp; try with_reducible rfl)
          try simp only [Act.put, List.setIfInBounds_toArray, List.set_cons_zero, List.set_cons_succ]
          refine' wpAnyH_take (i := 3) (v := _) (by simp only [List.getElem?_toArray, List.getElem?_cons_succ, List.getElem?_cons_zero]; exact rfl) (by kernel_rfl) (by kernel_rfl) (by kernel_rfl) (fun _ _ _ h => h) (Or.inl ⟨by rfl, ?y3x21⟩) hHeld ?r3x21
          case y3x21 => (intro w hSw; (try dsimp only at hSw); go_simp; try with_reducible rfl)
          try simp only [Act.put, List.setIfInBounds_toArray, List.set_cons_zero, List.set_cons_succ]
          refine' wpAnyH_take (i := 4) (v := _) (by simp only [List.getElem?_toArray, List.getElem?_cons_succ, List.getElem?_cons_zero]; exact rfl) (by kernel_rfl) (by kernel_rfl) (by kernel_rfl) (fun _ _ _ h => h) (Or.inl ⟨by rfl, ?y4x22⟩) hHeld ?r4x22
          case y4x22 => (intro w hSw; (try dsimp only at hSw); go_simp; try with_reducible rfl)
          try simp only [Act.put, List.setIfInBounds_toArray, List.set_cons_zero, List.set_cons_succ]
          refine wpAnyH_ready (rs := [2]) (by kernel_rfl) (by simp) ?_
          refine AllReadyH.cons (by simp only [List.getElem?_toArray, List.getElem?_cons_succ, List.getElem?_cons_zero]; exact rfl) (fun K hK => ?_) AllReadyH.nil
          go_simp
          refine (HF.out.sg _ (HG.out.below hHeld.2.2.2.2.2.2.2.2.2.2.2.2.2.2.2.2.2.2.2 HG.out.size) (HM.out.up hHeld.2.2.2.2.2.2.2.2.2.2.2.2.2.2.2.2.2.2.2)).mono ?_
          rintro e w' ⟨rfl, hb⟩
          refine hK.out _ _ (tells_step hHeld hb) (fun hHeld => ?_)
          clear hK K hb
          try simp only [Act.put, List.setIfInBounds_toArray, List.set_cons_zero, List.set_cons_succ]
          refine wpAnyH_ready (rs := [5]) (by kernel_rfl) (by simp) ?_
          refine AllReadyH.cons (by simp only [List.getElem?_toArray, List.getElem?_cons_succ, List.getElem?_cons_zero]; exact rfl) (fun K hK => ?_) AllReadyH.nil
          go_simp
          refine (HF.out.rsg _).mono ?_
          rintro e w' ⟨rfl, hb⟩
          refine hK.out _ _ (tells_step hHeld hb) (fun hHeld => ?_)
          clear hK K hb
          try simp only [Act.put, List.setIfInBounds_toArray, List.set_cons_zero, List.set_cons_succ]
          refine' wpAnyH_take (i := 6) (v := _) (by simp only [List.getElem?_toArray, List.getElem?_cons_succ, List.getElem?_cons_zero]; exact rfl) (by kernel_rfl) (by kernel_rfl) (by kernel_rfl) (fun _ _ _ h => h) (Or.inl ⟨by rfl, ?y6x23⟩) hHeld ?r6x23
          case y6x23 => (intro w hSw; (try dsimp only at hSw); go_simp; try with_reducible rfl)
          try simp only [Act.put, List.setIfInBounds_toArray, List.set_cons_zero, List.set_cons_succ]
          refine' wpAnyH_take (i := 7) (v := _) (by simp only [List.getElem?_toArray, List.getElem?_cons_succ, List.getElem?_cons_zero]; exact rfl) (by kernel_rfl) (by kernel_rfl) (by kernel_rfl) (fun _ _ _ h => h) (Or.inl ⟨by rfl, ?y7x24⟩) hHeld ?r7x24
          case y7x24 => (intro w hSw; (try dsimp only at hSw); go_simp; try with_reducible rfl)
          try simp only [Act.put, List.setIfInBounds_toArray, List.set_cons_zero, List.set_cons_succ]
          refine' wpAnyH_take (i := 8) (v := _) (by simp only [List.getElem?_toArray, List.getElem?_cons_succ, List.getElem?_cons_zero]; exact rfl) (by kernel_rfl) (by kernel_rfl) (by kernel_rfl) (fun _ _ _ h => h) (Or.inl ⟨by rfl, ?y8x25⟩) hHeld ?r8x25
          case y8x25 => (intro w hSw; (try dsimp only at hSw); go_simp; try with_reducible rfl)
          try simp only [Act.put, List.setIfInBounds_toArray, List.set_cons_zero, List.set_cons_succ]
          refine' wpAnyH_take (i := 9) (v := _) (by simp only [List.getElem?_toArray, List.getElem?_cons_succ, List.getElem?_cons_zero]; exact rfl) (by kernel_rfl) (by kernel_rfl) (by kernel_rfl) (fun _ _ _ h => h) (Or.inl ⟨by rfl, ?y9x26⟩) hHeld ?r9x26
          case y9x26 => (intro w hSw; (try dsimp only at hSw); go_simp; try with_reducible rfl)
          try simp only [Act.put, List.setIfInBounds_toArray, List.set_cons_zero, List.set_cons_succ]
          refine' wpAnyH_take (i := 10) (v := _) (by simp only [List.getElem?_toArray, List.getElem?_cons_succ, List.getElem?_cons_zero]; exact rfl) (by kernel_rfl) (by kernel_rfl) (by kernel_rfl) (fun _ _ _ h => h) (Or.inl ⟨by rfl, ?y10x27⟩) hHeld ?r10x27
          case y10x27 => (intro w hSw; (try dsimp only at hSw); go_simp; try with_reducible rfl)
          try simp only [Act.put, List.setIfInBounds_toArray, List.set_cons_zero, List.set_cons_succ]
          refine' wpAnyH_take (i := 12) (v := _) (by simp only [List.getElem?_toArray, List.getElem?_cons_succ, List.getElem?_cons_zero]; exact rfl) (by kernel_rfl) (by kernel_rfl) (by kernel_rfl) (fun _ _ _ h => h) (Or.inl ⟨by rfl, ?y12x28⟩) hHeld ?r12x28
          case y12x28 => (intro w hSw; (try dsimp only at hSw); go_simp; try with_reducible rfl)
          try simp only [Act.put, List.setIfInBounds_toArray, List.set_cons_zero, List.set_cons_succ]
          refine' wpAnyH_take (i := 13) (v := _) (by simp only [List.getElem?_toArray, List.getElem?_cons_succ, List.getElem?_cons_zero]; exact rfl) (by kernel_rfl) (by kernel_rfl) (by kernel_rfl) (fun _ _ _ h => h) (Or.inl ⟨by rfl, ?y13x29⟩) hHeld ?r13x29
          case y13x29 => (intro w hSw; (try dsimp only at hSw); go_simp; try with_reducible rfl)
          try simp only [Act.put, List.setIfInBounds_toArray, List.set_cons_zero, List.set_cons_succ]
          refine' wpAnyH_take (i := 14) (v := _) (by simp only [List.getElem?_toArray, List.getElem?_cons_succ, List.getElem?_cons_zero]; exact rfl) (by kernel_rfl) (by kernel_rfl) (by kernel_rfl) (fun _ _ _ h => h) (Or.inl ⟨by rfl, ?y14x30⟩) hHeld ?r14x30
          case y14x30 => (intro w hSw; (try dsimp only at hSw); go_simp; try with_reducible rfl)
          try simp only [Act.put, List.setIfInBounds_toArray, List.set_cons_zero, List.set_cons_succ]
          refine wpAnyH_ready (rs := [11]) (by kernel_rfl) (by simp) ?_
          refine AllReadyH.cons (by simp only [List.getElem?_toArray, List.getElem?_cons_succ, List.getElem?_cons_zero]; exact rfl) (fun K hK => ?_) AllReadyH.nil
          go_simp
          refine (HF.out.vf _ (HG.out.below hHeld.2.2.2.2.2.2.2.2.2.2.2.2.2.2.2.2.2.2.2 HG.out.size) (HM.out.up hHeld.2.2.2.2.2.2.2.2.2.2.2.2.2.2.2.2.2.2.2)).mono ?_
          rintro e w' ⟨rfl, hb⟩
          refine hK.out _ _ (tells_step hHeld hb) (fun hHeld => ?_)
          clear hK K hb
          try simp only [Act.put, List.setIfInBounds_toArray, List.set_cons_zero, List.set_cons_succ]
          refine wpAnyH_ready (rs := [15]) (by kernel_rfl) (by simp) ?_
          refine AllReadyH.cons (by simp only [List.getElem?_toArray, List.getElem?_cons_succ, List.getElem?_cons_zero]; exact rfl) (fun K hK => ?_) AllReadyH.nil
          go_simp
          refine (HF.out.rvf _).mono ?_
          rintro e w' ⟨rfl, hb⟩
          refine hK.out _ _ (tells_step hHeld hb) (fun hHeld => ?_)
          clear hK K hb
          try simp only [Act.put, List.setIfInBounds_toArray, List.set_cons_zero, List.set_cons_succ]
          refine' wpAnyH_take (i := 16) (v := _) (by simp only [List.getElem?_toArray, List.getElem?_cons_succ, List.getElem?_cons_zero]; exact rfl) (by kernel_rfl) (by kernel_rfl) (by kernel_rfl) (fun _ _ _ h => h) (Or.inl ⟨by rfl, ?y16x31⟩) hHeld ?r16x31
          case y16x31 => (intro w hSw; (try dsimp only at hSw); go_simp; try with_reducible rfl)
          try simp only [Act.put, List.setIfInBounds_toArray, List.set_cons_zero, List.set_cons_succ]
          refine' wpAnyH_take (i := 17) (v := _) (by simp only [List.getElem?_toArray, List.getElem?_cons_succ, List.getElem?_cons_zero]; exact rfl) (by kernel_rfl) (by kernel_rfl) (by kernel_rfl) (fun _ _ _ h => h) (Or.inl ⟨by rfl, ?y17x32⟩) hHeld ?r17x32
          case y17x32 => (intro w hSw; (try dsimp only at hSw); go_simp; try with_reducible rfl)
          try simp only [Act.put, List.setIfInBounds_toArray, List.set_cons_zero, List.set_cons_succ]
          refine' wpAnyH_take (i := 18) (v := _) (by simp only [List.getElem?_toArray, List.getElem?_cons_succ, List.getElem?_cons_zero]; exact rfl) (by kernel_rfl) (by kernel_rfl) (by kernel_rfl) (fun _ _ _ h => h) (Or.inl ⟨by rfl, ?y18x33⟩) hHeld ?r18x33
          case y18x33 => (intro w hSw; (try dsimp only at hSw); go_simp; try with_reducible rfl)
          try simp only [Act.put, List.setIfInBounds_toArray, List.set_cons_zero, List.set_cons_succ]
          refine' wpAnyH_take (i := 19) (v := _) (by simp only [List.getElem?_toArray, List.getElem?_cons_succ, List.getElem?_cons_zero]; exact rfl) (by kernel_rfl) (by kernel_rfl) (by kernel_rfl) (fun _ _ _ h => h) (Or.inl ⟨by rfl, ?y19x34⟩) hHeld ?r19x34
          case y19x34 => (intro w hSw; (try dsimp only at hSw); go_simp; try with_reducible rfl)
          try simp only [Act.put, List.setIfInBounds_toArray, List.set_cons_zero, List.set_cons_succ]
          refine' wpAnyH_take (i := 20) (v := _) (by simp only [List.getElem?_toArray, List.getElem?_cons_succ, List.getElem?_cons_zero]; exact rfl) (by kernel_rfl) (by kernel_rfl) (by kernel_rfl) (fun _ _ _ h => h) (Or.inl ⟨by rfl, ?y20x35⟩) hHeld ?r20x35
          case y20x35 => (intro w hSw; (try dsimp only at hSw); go_simp; try with_reducible rfl)
          try simp only [Act.put, List.setIfInBounds_toArray, List.set_cons_zero, List.set_cons_succ]
          refine' wpAnyH_take (i := 22) (v := _) (by simp only [List.getElem?_toArray, List.getElem?_cons_succ, List.getElem?_cons_zero]; exact rfl) (by kernel_rfl) (by kernel_rfl) (by kernel_rfl) (fun _ _ _ h => h) (Or.inl ⟨by rfl, ?y22x36⟩) hHeld ?r22x36
          case y22x36 => (intro w hSw; (try dsimp only at hSw); go_simp; try with_reducible rfl)
          try simp only [Act.put, List.setIfInBounds_toArray, List.set_cons_zero, List.set_cons_succ]
          refine' wpAnyH_take (i := 23) (v := _) (by simp only [List.getElem?_toArray, List.getElem?_cons_succ, List.getElem?_cons_zero]; exact rfl) (by kernel_rfl) (by kernel_rfl) (by kernel_rfl) (fun _ _ _ h => h) (Or.inl ⟨by rfl, ?y23x37⟩) hHeld ?r23x37
          case y23x37 => (intro w hSw; (try dsimp only at hSw); go_simp; try with_reducible rfl)
          try simp only [Act.put, List.setIfInBounds_toArray, List.set_cons_zero, List.set_cons_succ]
          refine wpAnyH_ready (rs := [21]) (by kernel_rfl) (by simp) ?_
          refine AllReadyH.cons (by simp only [List.getElem?_toArray, List.getElem?_cons_succ, List.getElem?_cons_zero]; exact rfl) (fun K hK => ?_) AllReadyH.nil
          go_simp
          refine (HF.out.ps _ (HG.out.below hHeld.2.2.2.2.2.2.2.2.2.2.2.2.2.2.2.2.2.2.2 HG.out.size) (HM.out.up hHeld.2.2.2.2.2.2.2.2.2.2.2.2.2.2.2.2.2.2.2)).mono ?_
          rintro e w' ⟨rfl, hb⟩
          refine hK.out _ _ (tells_step hHeld hb) (fun hHeld => ?_)
          clear hK K hb
          try simp only [Act.put, List.setIfInBounds_toArray, List.set_cons_zero, List.set_cons_succ]
          refine wpAnyH_ready (rs := [24]) (by kernel_rfl) (by simp) ?_
          refine AllReadyH.cons (by simp only [List.getElem?_toArray, List.getElem?_cons_succ, List.getElem?_cons_zero]; exact rfl) (fun K hK => ?_) AllReadyH.nil
          go_simp
          refine (HF.out.rps _).mono ?_
          rintro e w' ⟨rfl, hb⟩
          refine hK.out _ _ (tells_step hHeld hb) (fun hHeld => ?_)
          clear hK K hb
          try simp only [Act.put, List.setIfInBounds_toArray, List.set_cons_zero, List.set_cons_succ]
          refine' wpAnyH_take (i := 25) (v := _) (by simp only [List.getElem?_toArray, List.getElem?_cons_succ, List.getElem?_cons_zero]; exact rfl) (by kernel_rfl) (by kernel_rfl) (by kernel_rfl) (fun _ _ _ h => h) (Or.inl ⟨by rfl, ?y25x38⟩) hHeld ?r25x38
          case y25x38 => (intro w hSw; (try dsimp only at hSw); go_simp; try with_reducible rfl)
          try simp only [Act.put, List.setIfInBounds_toArray, List.set_cons_zero, List.set_cons_succ]
          refine' wpAnyH_take (i := 26) (v := _) (by simp only [List.getElem?_toArray, List.getElem?_cons_succ, List.getElem?_cons_zero]; exact rfl) (by kernel_rfl) (by kernel_rfl) (by kernel_rfl) (fun _ _ _ h => h) (Or.inl ⟨by rfl, ?y26x39⟩) hHeld ?r26x39
          case y26x39 => (intro w hSw; (try dsimp only at hSw); go_simp; try with_reducible rfl)
          try simp only [Act.put, List.setIfInBounds_toArray, List.set_cons_zero, List.set_cons_succ]
          refine' wpAnyH_take (i := 27) (v := _) (by simp only [List.getElem?_toArray, List.getElem?_cons_succ, List.getElem?_cons_zero]; exact rfl) (by kernel_rfl) (by kernel_rfl) (by kernel_rfl) (fun _ _ _ h => h) (Or.inl ⟨by rfl, ?y27x40⟩) hHeld ?r27x40
          case y27x40 => (intro w hSw; (try dsimp only at hSw); go_simp; try with_reducible rfl)
          try simp only [Act.put, List.setIfInBounds_toArray, List.set_cons_zero, List.set_cons_succ]
          refine' wpAnyH_take (i := 28) (v := _) (by simp only [List.getElem?_toArray, List.getElem?_cons_succ, List.getElem?_cons_zero]; exact rfl) (by kernel_rfl) (by kernel_rfl) (by kernel_rfl) (fun _ _ _ h => h) (Or.inl ⟨by rfl, ?y28x41⟩) hHeld ?r28x41
          case y28x41 => (intro w hSw; (try dsimp only at hSw); go_simp; try with_reducible rfl)
          try simp only [Act.put, List.setIfInBounds_toArray, List.set_cons_zero, List.set_cons_succ]
          refine' wpAnyH_take (i := 29) (v := _) (by simp only [List.getElem?_toArray, List.getElem?_cons_succ, List.getElem?_cons_zero]; exact rfl) (by kernel_rfl) (by kernel_rfl) (by kernel_rfl) (fun _ _ _ h => h) (Or.inl ⟨by rfl, ?y29x42⟩) hHeld ?r29x42
          case y29x42 => (intro w hSw; (try dsimp only at hSw); go_simp; try with_reducible rfl)
          try simp only [Act.put, List.setIfInBounds_toArray, List.set_cons_zero, List.set_cons_succ]
          refine' wpAnyH_take (i := 30) (v := _) (by simp only [List.getElem?_toArray, List.getElem?_cons_succ, List.getElem?_cons_zero]; exact rfl) (by kernel_rfl) (by kernel_rfl) (by kernel_rfl) (fun _ _ _ h => h) (Or.inl ⟨by rfl, ?y30x43⟩) hHeld ?r30x43
          case y30x43 => (intro w hSw; (try dsimp only at hSw); go_simp; try with_reducible rfl)
          try simp only [Act.put, List.setIfInBounds_toArray, List.set_cons_zero, List.set_cons_succ]
          refine' wpAnyH_take (i := 32) (v := _) (by simp only [List.getElem?_toArray, List.getElem?_cons_succ, List.getElem?_cons_zero]; exact rfl) (by kernel_rfl) (by kernel_rfl) (by kernel_rfl) (fun _ _ _ h => h) (Or.inl ⟨by rfl, ?y32x44⟩) hHeld ?r32x44
          case y32x44 => (intro w hSw; (try dsimp only at hSw); go_simp; try with_reducible rfl)
          try simp only [Act.put, List.setIfInBounds_toArray, List.set_cons_zero, List.set_cons_succ]
          refine' wpAnyH_take (i := 33) (v := _) (by simp only [List.getElem?_toArray, List.getElem?_cons_succ, List.getElem?_cons_zero]; exact rfl) (by kernel_rfl) (by kernel_rfl) (by kernel_rfl) (fun _ _ _ h => h) (Or.inl ⟨by rfl, ?y33x45⟩) hHeld ?r33x45
          case y33x45 => (intro w hSw; (try dsimp only at hSw); go_simp; try with_reducible rfl)
          try simp only [Act.put, List.setIfInBounds_toArray, List.set_cons_zero, List.set_cons_succ]
          refine' wpAnyH_take (i := 34) (v := _) (by simp only [List.getElem?_toArray, List.getElem?_cons_succ, List.getElem?_cons_zero]; exact rfl) (by kernel_rfl) (by kernel_rfl) (by kernel_rfl) (fun _ _ _ h => h) (Or.inl ⟨by rfl, ?y34x46⟩) hHeld ?r34x46
          case y34x46 => (intro w hSw; (try dsimp only at hSw); go_simp; try with_reducible rfl)
          try simp only [Act.put, List.setIfInBounds_toArray, List.set_cons_zero, List.set_cons_succ]
          refine wpAnyH_ready (rs := [31]) (by kernel_rfl) (by simp) ?_
          refine AllReadyH.cons (by simp only [List.getElem?_toArray, List.getElem?_cons_succ, List.getElem?_cons_zero]; exact rfl) (fun K hK => ?_) AllReadyH.nil
          go_simp
          refine (HF.out.pv _ (HG.out.below hHeld.2.2.2.2.2.2.2.2.2.2.2.2.2.2.2.2.2.2.2 HG.out.size) (HM.out.up hHeld.2.2.2.2.2.2.2.2.2.2.2.2.2.2.2.2.2.2.2)).mono ?_
          rintro e w' ⟨rfl, hb⟩
          refine hK.out _ _ (tells_step hHeld hb) (fun hHeld => ?_)
          clear hK K hb
          try simp only [Act.put, List.setIfInBounds_toArray, List.set_cons_zero, List.set_cons_succ]
          refine wpAnyH_ready (rs := [35]) (by kernel_rfl) (by simp) ?_
          refine AllReadyH.cons (by simp only [List.getElem?_toArray, List.getElem?_cons_succ, List.getElem?_cons_zero]; exact rfl) (fun K hK => ?_) AllReadyH.nil
          go_simp
          refine (HF.out.rpv _).mono ?_
          rintro e w' ⟨rfl, hb⟩
          refine hK.out _ _ (tells_step hHeld hb) (fun hHeld => ?_)
          clear hK K hb
          try simp only [Act.put, List.setIfInBounds_toArray, List.set_cons_zero, List.set_cons_succ]
          refine' wpAnyH_take (i := 36) (v := _) (by simp only [List.getElem?_toArray, List.getElem?_cons_succ, List.getElem?_cons_zero]; exact rfl) (by kernel_rfl) (by kernel_rfl) (by kernel_rfl) (fun _ _ _ h => h) (Or.inl ⟨by rfl, ?y36x47⟩) hHeld ?r36x47
          case y36x47 => (intro w hSw; (try dsimp only at hSw); go_simp; try with_reducible rfl)
          try simp only [Act.put, List.setIfInBounds_toArray, List.set_cons_zero, List.set_cons_succ]
          refine' wpAnyH_take (i := 37) (v := _) (by simp only [List.getElem?_toArray, List.getElem?_cons_succ, List.getElem?_cons_zero]; exact rfl) (by kernel_rfl) (by kernel_rfl) (by kernel_rfl) (fun _ _ _ h => h) (Or.inl ⟨by rfl, ?y37x48⟩) hHeld ?r37x48
          case y37x48 => (intro w hSw; (try dsimp only at hSw); go_simp; try with_reducible rfl)
          try simp only [Act.put, List.setIfInBounds_toArray, List.set_cons_zero, List.set_cons_succ]
          refine wpAnyH_done (by kernel_rfl) ?_ _
          refine NoPanic.normal ?_
          have HBz := Lib.hid hHeld.2.2.2.2.2.2.2.2.2.2.2.2.2.2.2.2.2.2.2
          clear HS1 hHeld
          go_wp2_with fail
          refine (HCh.out _ HBz.out).mono ?_
          rintro e w8 ⟨n, v, hI, rfl, hO, hb⟩
          have HB8 := Lib.hid (HBz.out.trans (hb.mono HBz.out.size))
          have HL8 : Hid (LArg RC 8 v (l.take n) w8) := Lib.hid (owns_larg hO (by rw [List.length_take]; exact Nat.min_eq_left hI.1) (fun x hx => HCO.out x (List.mem_of_mem_take hx)))
          have HI := Lib.hid hI
          clear hI hO hb
          go_wp2_with fail
          refine (HRc.out _ HB8.out).mono ?_
          rintro e w9 ⟨n2, v2, hI2, rfl, hO2, hb⟩
          obtain rfl := isCh_same HI.out hI2
          have HB9 := Lib.hid (HB8.out.trans (hb.mono HB8.out.size))
          have HL9 := Lib.hid (HL8.out.below stays_RC hb)
          have HM9 := Lib.hid hO2
          have hnl : (l.take n).length ≤ 100 := by rw [List.length_take]; omega
          clear hI2 hO2 hb HL8 HB8
          go_wp2_with fail
          refine (rsame_any (l.take n) v v2 _ HL9.out HM9.out hnl).mono ?_
          rintro e w10 ⟨rfl, hb⟩
          have HB10 := Lib.hid (HB9.out.trans (hb.mono HB9.out.size))
          clear hb
          go_wp2_with fail
          go_ret
          exact ⟨rfl, HB10.out⟩
        · clear hc hp hcm hsh hsm hy hL hP hg hml hpr hsl
          go_enter Tryz.func3, Tryz.ntmps3
          go_upto_region 1 with fail
          obtain ⟨r0, r1, r2, rb⟩ := three_rows (w := w) (A := (.cells #[.int .i64 c.office, .int .i64 c.hour, .int .i64 c.inn, .int .i64 c.out, .int .i64 c.store, .string c.prev, .int .i64 c.e, .int .i64 c.s] 25)) (B := (.cells #[.int .i64 p.office, .int .i64 p.since, .int .i64 p.till, .int .i64 p.litres, .int .i64 p.e, .int .i64 p.s] 27)) (C := (.cells #[.int .i64 x, .int .i64 y] 29))
          have Ch1 := Lib.hid r0
          have Ph1 := Lib.hid r1
          have Kh1 := Lib.hid r2
          have HB1 := Lib.hid rb
          clear r0 r1 r2 rb
          generalize (((w.alloc (.cells #[.int .i64 c.office, .int .i64 c.hour, .int .i64 c.inn, .int .i64 c.out, .int .i64 c.store, .string c.prev, .int .i64 c.e, .int .i64 c.s] 25)).alloc (.cells #[.int .i64 p.office, .int .i64 p.since, .int .i64 p.till, .int .i64 p.litres, .int .i64 p.e, .int .i64 p.s] 27)).alloc (.cells #[.int .i64 x, .int .i64 y] 29)) = w1 at *
          generalize w.heap.size + 1 + 1 = bK at *
          generalize w.heap.size + 1 = bP at *
          go_wp2_with fail
          refine (small_any _ (HG.out.below HB1.out HG.out.size) (HM.out.up HB1.out)).mono ?_
          rintro e w2 ⟨rfl, hb⟩
          have HB2 := Lib.hid (HB1.out.trans (hb.mono HB1.out.size))
          have Ch2 := Lib.hid (blk_below Ch1.out hb (blk_lt Ch1.out))
          have Ph2 := Lib.hid (blk_below Ph1.out hb (blk_lt Ph1.out))
          have Kh2 := Lib.hid (blk_below Kh1.out hb (blk_lt Kh1.out))
          clear HB1 Ch1 Ph1 Kh1
          clear hb
          have cC0 : w2.cell? ⟨w.heap.size, 0, none⟩ = some (.int .i64 c.office) := (cell_of_row _ _ _ _ _ _ Ch2.out).trans rfl
          have cC1 : w2.cell? ⟨w.heap.size, 1, none⟩ = some (.int .i64 c.hour) := (cell_of_row _ _ _ _ _ _ Ch2.out).trans rfl
          have cC2 : w2.cell? ⟨w.heap.size, 2, none⟩ = some (.int .i64 c.inn) := (cell_of_row _ _ _ _ _ _ Ch2.out).trans rfl
          have cC3 : w2.cell? ⟨w.heap.size, 3, none⟩ = some (.int .i64 c.out) := (cell_of_row _ _ _ _ _ _ Ch2.out).trans rfl
          have cC4 : w2.cell? ⟨w.heap.size, 4, none⟩ = some (.int .i64 c.store) := (cell_of_row _ _ _ _ _ _ Ch2.out).trans rfl
          have cC5 : w2.cell? ⟨w.heap.size, 5, none⟩ = some (.string c.prev) := (cell_of_row _ _ _ _ _ _ Ch2.out).trans rfl
          have cC6 : w2.cell? ⟨w.heap.size, 6, none⟩ = some (.int .i64 c.e) := (cell_of_row _ _ _ _ _ _ Ch2.out).trans rfl
          have cC7 : w2.cell? ⟨w.heap.size, 7, none⟩ = some (.int .i64 c.s) := (cell_of_row _ _ _ _ _ _ Ch2.out).trans rfl
          have cP0 : w2.cell? ⟨bP, 0, none⟩ = some (.int .i64 p.office) := (cell_of_row _ _ _ _ _ _ Ph2.out).trans rfl
          have cP1 : w2.cell? ⟨bP, 1, none⟩ = some (.int .i64 p.since) := (cell_of_row _ _ _ _ _ _ Ph2.out).trans rfl
          have cP2 : w2.cell? ⟨bP, 2, none⟩ = some (.int .i64 p.till) := (cell_of_row _ _ _ _ _ _ Ph2.out).trans rfl
          have cP3 : w2.cell? ⟨bP, 3, none⟩ = some (.int .i64 p.litres) := (cell_of_row _ _ _ _ _ _ Ph2.out).trans rfl
          have cP4 : w2.cell? ⟨bP, 4, none⟩ = some (.int .i64 p.e) := (cell_of_row _ _ _ _ _ _ Ph2.out).trans rfl
          have cP5 : w2.cell? ⟨bP, 5, none⟩ = some (.int .i64 p.s) := (cell_of_row _ _ _ _ _ _ Ph2.out).trans rfl
          have cK0 : w2.cell? ⟨bK, 0, none⟩ = some (.int .i64 x) := (cell_of_row _ _ _ _ _ _ Kh2.out).trans rfl
          have cK1 : w2.cell? ⟨bK, 1, none⟩ = some (.int .i64 y) := (cell_of_row _ _ _ _ _ _ Kh2.out).trans rfl
          go_wp2_with fail
          refine (HSh.out _ _ (heap_alloc_new _ _)).mono ?_
          rintro e w3 ⟨rfl, rfl⟩
          have hb : Below w2.heap.size w2 (w2.alloc (.cells #[.int .i64 c.office, .int .i64 c.hour, .int .i64 c.inn, .int .i64 c.out, .int .i64 c.store, .string c.prev, .int .i64 c.e, .int .i64 c.s] 25)) := (Below.refl _ _).alloc (Nat.le_refl _) _
          have HB3 := Lib.hid (HB2.out.trans (hb.mono HB2.out.size))
          have Ch3 := Lib.hid (blk_below Ch2.out hb (blk_lt Ch2.out))
          have Ph3 := Lib.hid (blk_below Ph2.out hb (blk_lt Ph2.out))
          have Kh3 := Lib.hid (blk_below Kh2.out hb (blk_lt Kh2.out))
          clear cC0 cC1 cC2 cC3 cC4 cC5 cC6 cC7 cP0 cP1 cP2 cP3 cP4 cP5 cK0 cK1
          clear HB2 Ch2 Ph2 Kh2
          clear hb
          generalize w2.alloc (.cells #[.int .i64 c.office, .int .i64 c.hour, .int .i64 c.inn, .int .i64 c.out, .int .i64 c.store, .string c.prev, .int .i64 c.e, .int .i64 c.s] 25) = w3 at *
          go_wp2_with fail
          refine (HSl.out _ HB3.out).mono ?_
          rintro e w4 ⟨rfl, hw4⟩
          rw [hw4]
          clear hw4
          have cC0 : w3.cell? ⟨w.heap.size, 0, none⟩ = some (.int .i64 c.office) := (cell_of_row _ _ _ _ _ _ Ch3.out).trans rfl
          have cC1 : w3.cell? ⟨w.heap.size, 1, none⟩ = some (.int .i64 c.hour) := (cell_of_row _ _ _ _ _ _ Ch3.out).trans rfl
          have cC2 : w3.cell? ⟨w.heap.size, 2, none⟩ = some (.int .i64 c.inn) := (cell_of_row _ _ _ _ _ _ Ch3.out).trans rfl
          have cC3 : w3.cell? ⟨w.heap.size, 3, none⟩ = some (.int .i64 c.out) := (cell_of_row _ _ _ _ _ _ Ch3.out).trans rfl
          have cC4 : w3.cell? ⟨w.heap.size, 4, none⟩ = some (.int .i64 c.store) := (cell_of_row _ _ _ _ _ _ Ch3.out).trans rfl
          have cC5 : w3.cell? ⟨w.heap.size, 5, none⟩ = some (.string c.prev) := (cell_of_row _ _ _ _ _ _ Ch3.out).trans rfl
          have cC6 : w3.cell? ⟨w.heap.size, 6, none⟩ = some (.int .i64 c.e) := (cell_of_row _ _ _ _ _ _ Ch3.out).trans rfl
          have cC7 : w3.cell? ⟨w.heap.size, 7, none⟩ = some (.int .i64 c.s) := (cell_of_row _ _ _ _ _ _ Ch3.out).trans rfl
          have cP0 : w3.cell? ⟨bP, 0, none⟩ = some (.int .i64 p.office) := (cell_of_row _ _ _ _ _ _ Ph3.out).trans rfl
          have cP1 : w3.cell? ⟨bP, 1, none⟩ = some (.int .i64 p.since) := (cell_of_row _ _ _ _ _ _ Ph3.out).trans rfl
          have cP2 : w3.cell? ⟨bP, 2, none⟩ = some (.int .i64 p.till) := (cell_of_row _ _ _ _ _ _ Ph3.out).trans rfl
          have cP3 : w3.cell? ⟨bP, 3, none⟩ = some (.int .i64 p.litres) := (cell_of_row _ _ _ _ _ _ Ph3.out).trans rfl
          have cP4 : w3.cell? ⟨bP, 4, none⟩ = some (.int .i64 p.e) := (cell_of_row _ _ _ _ _ _ Ph3.out).trans rfl
          have cP5 : w3.cell? ⟨bP, 5, none⟩ = some (.int .i64 p.s) := (cell_of_row _ _ _ _ _ _ Ph3.out).trans rfl
          have cK0 : w3.cell? ⟨bK, 0, none⟩ = some (.int .i64 x) := (cell_of_row _ _ _ _ _ _ Kh3.out).trans rfl
          have cK1 : w3.cell? ⟨bK, 1, none⟩ = some (.int .i64 y) := (cell_of_row _ _ _ _ _ _ Kh3.out).trans rfl
          go_wp2_with fail
          go_ret
          exact ⟨rfl, HB3.out⟩
      · clear hc hp hcm hsh hy hL hP hg hml hpr hsl
        go_enter Tryz.func3, Tryz.ntmps3
        go_upto_region 1 with fail
        obtain ⟨r0, r1, r2, rb⟩ := three_rows (w := w) (A := (.cells #[.int .i64 c.office, .int .i64 c.hour, .int .i64 c.inn, .int .i64 c.out, .int .i64 c.store, .string c.prev, .int .i64 c.e, .int .i64 c.s] 25)) (B := (.cells #[.int .i64 p.office, .int .i64 p.since, .int .i64 p.till, .int .i64 p.litres, .int .i64 p.e, .int .i64 p.s] 27)) (C := (.cells #[.int .i64 x, .int .i64 y] 29))
        have Ch1 := Lib.hid r0
        have Ph1 := Lib.hid r1
        have Kh1 := Lib.hid r2
        have HB1 := Lib.hid rb
        clear r0 r1 r2 rb
        generalize (((w.alloc (.cells #[.int .i64 c.office, .int .i64 c.hour, .int .i64 c.inn, .int .i64 c.out, .int .i64 c.store, .string c.prev, .int .i64 c.e, .int .i64 c.s] 25)).alloc (.cells #[.int .i64 p.office, .int .i64 p.since, .int .i64 p.till, .int .i64 p.litres, .int .i64 p.e, .int .i64 p.s] 27)).alloc (.cells #[.int .i64 x, .int .i64 y] 29)) = w1 at *
        generalize w.heap.size + 1 + 1 = bK at *
        generalize w.heap.size + 1 = bP at *
        go_wp2_with fail
        refine (small_any _ (HG.out.below HB1.out HG.out.size) (HM.out.up HB1.out)).mono ?_
        rintro e w2 ⟨rfl, hb⟩
        have HB2 := Lib.hid (HB1.out.trans (hb.mono HB1.out.size))
        have Ch2 := Lib.hid (blk_below Ch1.out hb (blk_lt Ch1.out))
        have Ph2 := Lib.hid (blk_below Ph1.out hb (blk_lt Ph1.out))
        have Kh2 := Lib.hid (blk_below Kh1.out hb (blk_lt Kh1.out))
        clear HB1 Ch1 Ph1 Kh1
        clear hb
        have cC0 : w2.cell? ⟨w.heap.size, 0, none⟩ = some (.int .i64 c.office) := (cell_of_row _ _ _ _ _ _ Ch2.out).trans rfl
        have cC1 : w2.cell? ⟨w.heap.size, 1, none⟩ = some (.int .i64 c.hour) := (cell_of_row _ _ _ _ _ _ Ch2.out).trans rfl
        have cC2 : w2.cell? ⟨w.heap.size, 2, none⟩ = some (.int .i64 c.inn) := (cell_of_row _ _ _ _ _ _ Ch2.out).trans rfl
        have cC3 : w2.cell? ⟨w.heap.size, 3, none⟩ = some (.int .i64 c.out) := (cell_of_row _ _ _ _ _ _ Ch2.out).trans rfl
        have cC4 : w2.cell? ⟨w.heap.size, 4, none⟩ = some (.int .i64 c.store) := (cell_of_row _ _ _ _ _ _ Ch2.out).trans rfl
        have cC5 : w2.cell? ⟨w.heap.size, 5, none⟩ = some (.string c.prev) := (cell_of_row _ _ _ _ _ _ Ch2.out).trans rfl
        have cC6 : w2.cell? ⟨w.heap.size, 6, none⟩ = some (.int .i64 c.e) := (cell_of_row _ _ _ _ _ _ Ch2.out).trans rfl
        have cC7 : w2.cell? ⟨w.heap.size, 7, none⟩ = some (.int .i64 c.s) := (cell_of_row _ _ _ _ _ _ Ch2.out).trans rfl
        have cP0 : w2.cell? ⟨bP, 0, none⟩ = some (.int .i64 p.office) := (cell_of_row _ _ _ _ _ _ Ph2.out).trans rfl
        have cP1 : w2.cell? ⟨bP, 1, none⟩ = some (.int .i64 p.since) := (cell_of_row _ _ _ _ _ _ Ph2.out).trans rfl
        have cP2 : w2.cell? ⟨bP, 2, none⟩ = some (.int .i64 p.till) := (cell_of_row _ _ _ _ _ _ Ph2.out).trans rfl
        have cP3 : w2.cell? ⟨bP, 3, none⟩ = some (.int .i64 p.litres) := (cell_of_row _ _ _ _ _ _ Ph2.out).trans rfl
        have cP4 : w2.cell? ⟨bP, 4, none⟩ = some (.int .i64 p.e) := (cell_of_row _ _ _ _ _ _ Ph2.out).trans rfl
        have cP5 : w2.cell? ⟨bP, 5, none⟩ = some (.int .i64 p.s) := (cell_of_row _ _ _ _ _ _ Ph2.out).trans rfl
        have cK0 : w2.cell? ⟨bK, 0, none⟩ = some (.int .i64 x) := (cell_of_row _ _ _ _ _ _ Kh2.out).trans rfl
        have cK1 : w2.cell? ⟨bK, 1, none⟩ = some (.int .i64 y) := (cell_of_row _ _ _ _ _ _ Kh2.out).trans rfl
        go_wp2_with fail
        refine (HSh.out _ _ (heap_alloc_new _ _)).mono ?_
        rintro e w3 ⟨rfl, rfl⟩
        have hb : Below w2.heap.size w2 (w2.alloc (.cells #[.int .i64 c.office, .int .i64 c.hour, .int .i64 c.inn, .int .i64 c.out, .int .i64 c.store, .string c.prev, .int .i64 c.e, .int .i64 c.s] 25)) := (Below.refl _ _).alloc (Nat.le_refl _) _
        have HB3 := Lib.hid (HB2.out.trans (hb.mono HB2.out.size))
        have Ch3 := Lib.hid (blk_below Ch2.out hb (blk_lt Ch2.out))
        have Ph3 := Lib.hid (blk_below Ph2.out hb (blk_lt Ph2.out))
        have Kh3 := Lib.hid (blk_below Kh2.out hb (blk_lt Kh2.out))
        clear cC0 cC1 cC2 cC3 cC4 cC5 cC6 cC7 cP0 cP1 cP2 cP3 cP4 cP5 cK0 cK1
        clear HB2 Ch2 Ph2 Kh2
        clear hb
        generalize w2.alloc (.cells #[.int .i64 c.office, .int .i64 c.hour, .int .i64 c.inn, .int .i64 c.out, .int .i64 c.store, .string c.prev, .int .i64 c.e, .int .i64 c.s] 25) = w3 at *
        go_wp2_with fail
        refine (HSl.out _ HB3.out).mono ?_
        rintro e w4 ⟨rfl, hw4⟩
        rw [hw4]
        clear hw4
        have cC0 : w3.cell? ⟨w.heap.size, 0, none⟩ = some (.int .i64 c.office) := (cell_of_row _ _ _ _ _ _ Ch3.out).trans rfl
        have cC1 : w3.cell? ⟨w.heap.size, 1, none⟩ = some (.int .i64 c.hour) := (cell_of_row _ _ _ _ _ _ Ch3.out).trans rfl
        have cC2 : w3.cell? ⟨w.heap.size, 2, none⟩ = some (.int .i64 c.inn) := (cell_of_row _ _ _ _ _ _ Ch3.out).trans rfl
        have cC3 : w3.cell? ⟨w.heap.size, 3, none⟩ = some (.int .i64 c.out) := (cell_of_row _ _ _ _ _ _ Ch3.out).trans rfl
        have cC4 : w3.cell? ⟨w.heap.size, 4, none⟩ = some (.int .i64 c.store) := (cell_of_row _ _ _ _ _ _ Ch3.out).trans rfl
        have cC5 : w3.cell? ⟨w.heap.size, 5, none⟩ = some (.string c.prev) := (cell_of_row _ _ _ _ _ _ Ch3.out).trans rfl
        have cC6 : w3.cell? ⟨w.heap.size, 6, none⟩ = some (.int .i64 c.e) := (cell_of_row _ _ _ _ _ _ Ch3.out).trans rfl
        have cC7 : w3.cell? ⟨w.heap.size, 7, none⟩ = some (.int .i64 c.s) := (cell_of_row _ _ _ _ _ _ Ch3.out).trans rfl
        have cP0 : w3.cell? ⟨bP, 0, none⟩ = some (.int .i64 p.office) := (cell_of_row _ _ _ _ _ _ Ph3.out).trans rfl
        have cP1 : w3.cell? ⟨bP, 1, none⟩ = some (.int .i64 p.since) := (cell_of_row _ _ _ _ _ _ Ph3.out).trans rfl
        have cP2 : w3.cell? ⟨bP, 2, none⟩ = some (.int .i64 p.till) := (cell_of_row _ _ _ _ _ _ Ph3.out).trans rfl
        have cP3 : w3.cell? ⟨bP, 3, none⟩ = some (.int .i64 p.litres) := (cell_of_row _ _ _ _ _ _ Ph3.out).trans rfl
        have cP4 : w3.cell? ⟨bP, 4, none⟩ = some (.int .i64 p.e) := (cell_of_row _ _ _ _ _ _ Ph3.out).trans rfl
        have cP5 : w3.cell? ⟨bP, 5, none⟩ = some (.int .i64 p.s) := (cell_of_row _ _ _ _ _ _ Ph3.out).trans rfl
        have cK0 : w3.cell? ⟨bK, 0, none⟩ = some (.int .i64 x) := (cell_of_row _ _ _ _ _ _ Kh3.out).trans rfl
        have cK1 : w3.cell? ⟨bK, 1, none⟩ = some (.int .i64 y) := (cell_of_row _ _ _ _ _ _ Kh3.out).trans rfl
        go_wp2_with fail
        go_ret
        exact ⟨rfl, HB3.out⟩
end Go.Proofs.YtgjklfddoechpaaGreatDoor
