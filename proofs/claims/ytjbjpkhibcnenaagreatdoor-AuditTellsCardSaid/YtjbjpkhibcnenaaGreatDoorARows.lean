/- Rows of the call's own, carried along. -/
import Derived.Test.YtjbjpkhibcnenaaGreatDoorLoad
import Derived.Test.YtjbjpkhibcnenaaGreatDoorAByHour
namespace Go.Proofs.YtjbjpkhibcnenaaGreatDoor
open Go.RowKit
structure RowsS (w : World) (rs : List (Nat × Obj)) (c : World) : Prop where
 rows : ∀ (i : Nat) (p : Nat × Obj), rs[i]? = some p → c.heap[p.1]? = some p.2
 below : Below w.heap.size w c
 ge : ∀ p ∈ rs, w.heap.size ≤ p.1
 ne : (rs.map (·.1)).Nodup
theorem RowsS.nil (w : World) : RowsS w [] w := ⟨fun i p h => by simp at h, Below.refl _ _, fun p h => by simp at h, by simp⟩
theorem RowsS.step {w c c' : World} {rs : List (Nat × Obj)} (h : RowsS w rs c) (hb : Below c.heap.size c c') : RowsS w rs c' :=
 ⟨fun i p hp => blk_below (h.rows i p hp) hb (blk_lt (h.rows i p hp)), h.below.trans (hb.mono h.below.size), h.ge, h.ne⟩
theorem RowsS.drew {w c : World} {rs : List (Nat × Obj)} (h : RowsS w rs c) : RowsS w rs c.drew := h.step (Below.refl _ _).drew
theorem RowsS.drewN {w c : World} {rs : List (Nat × Obj)} (h : RowsS w rs c) (n : Nat) : RowsS w rs (c.drewN n) := h.step (below_drewN (Below.refl _ _))
theorem RowsS.undrew {w c : World} {rs : List (Nat × Obj)} (h : RowsS w rs c.drew) : RowsS w rs c :=
 ⟨h.rows, ⟨h.below.os, h.below.tape, h.below.output, h.below.size, h.below.block⟩, h.ge, h.ne⟩
theorem RowsS.alloc {w c : World} {rs : List (Nat × Obj)} (h : RowsS w rs c) (o : Obj) : RowsS w (rs ++ [(c.heap.size, o)]) (c.alloc o) := by
 have hb : Below c.heap.size c (c.alloc o) := (Below.refl _ _).alloc (Nat.le_refl _) o; have h2 := h.step hb
 have hlt : ∀ p ∈ rs, p.1 < c.heap.size := fun p hp => by
  obtain ⟨i, hi⟩ := List.getElem?_of_mem hp; exact blk_lt (h.rows i p hi)
 refine ⟨fun i p hp => ?_, h2.below, fun p hp => ?_, ?_⟩
 ·
  rw [List.getElem?_append] at hp
  split at hp
  · exact h2.rows i p hp
  ·
   cases hi : i - rs.length with
   | zero => rw [hi] at hp; cases hp; exact heap_alloc_new _ _
   | succ j => rw [hi] at hp; simp at hp
 ·
  rcases List.mem_append.1 hp with hp | hp
  · exact h.ge p hp
  · simp at hp; subst hp; exact h.below.size
 ·
  rw [List.map_append, List.nodup_append]; refine ⟨h.ne, by simp, fun a ha b hb => ?_⟩; obtain ⟨p, hp, rfl⟩ := List.mem_map.1 ha; simp at hb; have := hlt p hp; omega
theorem rangeN {w : World} {b : Nat} {cs : Array Value} {t : TypeId} (h : w.heap[b]? = some (.cells cs t (0, 0))) (off : Nat) (ls : List Value) (hl : (cs.toList.drop off).take ls.length = ls) : w.rangeAt b off ls := fun j v hv => by
 rw [cell_of_row _ _ _ _ _ _ h, ← Array.getElem?_toList]; rw [← hl, List.getElem?_take] at hv
 split at hv
 ·
  rw [List.getElem?_drop] at hv; exact hv
 · cases hv
theorem RowsS.set {w c : World} {rs : List (Nat × Obj)} (h : RowsS w rs c) {i b : Nat} {cs cs' : Array Value} {t : TypeId} (hi : rs[i]? = some (b, .cells cs t (0, 0))) : RowsS w (rs.set i (b, .cells cs' t (0, 0))) (c.setRow b cs') := by
 have hmem : ∀ (j : Nat) (p : Nat × Obj), rs[j]? = some p → j ≠ i → p.1 ≠ b := fun j p hj hne e => by
  obtain ⟨h1, e1⟩ := List.getElem?_eq_some_iff.1 hj; obtain ⟨h2, e2⟩ := List.getElem?_eq_some_iff.1 hi
  have e3 : (rs.map (·.1))[j]'(by simp [h1]) = (rs.map (·.1))[i]'(by simp [h2]) := by
   simp only [List.getElem_map, e1, e2, e]
  have hp := List.pairwise_iff_getElem.1 h.ne; rcases Nat.lt_or_gt_of_ne hne with hl | hl
  · exact hp j i (by simp [h1]) (by simp [h2]) hl e3
  · exact hp i j (by simp [h2]) (by simp [h1]) hl e3.symm
 refine ⟨fun j p hp => ?_, below_setRow h.below (h.ge _ (List.mem_of_getElem? hi)) _, fun p hp => ?_, ?_⟩
 ·
  rw [List.getElem?_set] at hp
  split at hp
  ·
   next e =>
   split at hp
   ·
    cases hp
    exact setRow_heap _ _ _ _ _ _ (h.rows i _ hi)
   · cases hp
  ·
   next e =>
   exact (setRow_other _ _ _ _ (hmem j p hp (fun e2 => e e2.symm))).trans (h.rows j p hp)
 ·
  rcases List.mem_or_eq_of_mem_set hp with hp | rfl
  · exact h.ge p hp
  · exact h.ge (b, .cells cs t (0, 0)) (List.mem_of_getElem? hi)
 ·
  have e : (rs.set i (b, Obj.cells cs' t (0, 0))).map (·.1) = rs.map (·.1) := by
   rw [List.map_set]
   apply List.ext_getElem?
   intro k; rw [List.getElem?_set]
   split
   ·
    next e =>
    subst e
    split
    · rw [List.getElem?_map, hi]; rfl
    · next hl => rw [List.getElem?_eq_none (by simp at hl ⊢; omega)]
   · rfl
  rw [e]; exact h.ne
theorem RowsS.mono {w w0 c : World} {rs : List (Nat × Obj)} (h : RowsS w rs c) (hw : Below w0.heap.size w0 w) : RowsS w0 rs c :=
 ⟨h.rows, hw.trans (h.below.mono hw.size), fun p hp => Nat.le_trans hw.size (h.ge p hp), h.ne⟩
theorem RowsS.twoE (w : World) (A B : Obj) : ∃ w0, (w.alloc A).alloc B = w0 ∧ RowsS w [(w.heap.size, A), (w.heap.size + 1, B)] w0 := by
 refine ⟨_, rfl, ?_⟩; have := ((RowsS.nil w).alloc A).alloc B; rw [show (w.alloc A).heap.size = w.heap.size + 1 by simp] at this; exact this
theorem RowsS.threeE (w : World) (A B C : Obj) : ∃ w0, ((w.alloc A).alloc B).alloc C = w0 ∧ RowsS w [(w.heap.size, A), (w.heap.size + 1, B), (w.heap.size + 1 + 1, C)] w0 := by
 refine ⟨_, rfl, ?_⟩; have := (((RowsS.nil w).alloc A).alloc B).alloc C; rw [show (w.alloc A).heap.size = w.heap.size + 1 by simp, show ((w.alloc A).alloc B).heap.size = w.heap.size + 1 + 1 by simp] at this; exact this
theorem RowsS.take {w c : World} {rs : List (Nat × Obj)} (h : RowsS w rs c) (n : Nat) : RowsS w (rs.take n) c :=
 ⟨fun i p hp => (by
  rw [List.getElem?_take] at hp
  split at hp
  · exact h.rows i p hp
  · cases hp), h.below, fun p hp => h.ge p (List.mem_of_mem_take hp), by rw [List.map_take]; exact h.ne.sublist (List.take_sublist _ _)⟩
theorem RowsS.grow {w c c' : World} {rs : List (Nat × Obj)} {i g g' : Nat} {o o' : Obj} (h : RowsS w rs c) (hi : rs[i]? = some (g, o)) (hg : c.grownBy c' (some g)) (hat : g' = g ∨ g' = c.heap.size) (ho : c'.heap[g']? = some o') : RowsS w (rs.set i (g', o')) c' := by
 have hlt : ∀ p ∈ rs, p.1 < c.heap.size := fun p hp => by
  obtain ⟨i, hi⟩ := List.getElem?_of_mem hp; exact blk_lt (h.rows i p hi)
 have hmem : ∀ (j : Nat) (p : Nat × Obj), rs[j]? = some p → j ≠ i → p.1 ≠ g := fun j p hj hne e => by
  obtain ⟨h1, e1⟩ := List.getElem?_eq_some_iff.1 hj; obtain ⟨h2, e2⟩ := List.getElem?_eq_some_iff.1 hi
  have e3 : (rs.map (·.1))[j]'(by simp [h1]) = (rs.map (·.1))[i]'(by simp [h2]) := by
   simp only [List.getElem_map, e1, e2, e]
  have hp := List.pairwise_iff_getElem.1 h.ne; rcases Nat.lt_or_gt_of_ne hne with hl | hl
  · exact hp j i (by simp [h1]) (by simp [h2]) hl e3
  · exact hp i j (by simp [h2]) (by simp [h1]) hl e3.symm
 have hgm := List.mem_of_getElem? hi
 have hge : w.heap.size ≤ g' := by
  rcases hat with e | e
  · rw [e]; exact h.ge _ hgm
  · rw [e]; exact h.below.size
 refine ⟨fun j p hp => ?_, h.below.grown hg h.below.size (fun k e => by cases e; exact h.ge _ hgm), fun p hp => ?_, ?_⟩
 ·
  rw [List.getElem?_set] at hp
  split at hp
  ·
   split at hp
   ·
    cases hp
    exact ho
   · cases hp
  ·
   next e =>
   have hne := hmem j p hp (fun e2 => e e2.symm); exact (hg.block p.1 (hlt p (List.mem_of_getElem? hp)) (by simp [hne])).trans (h.rows j p hp)
 ·
  rcases List.mem_or_eq_of_mem_set hp with hp | rfl
  · exact h.ge p hp
  · exact hge
 ·
  rw [List.map_set]; have hli : i < (rs.map (·.1)).length := by rw [List.length_map]; exact (List.getElem?_eq_some_iff.1 hi).1
  rw [List.Nodup, List.pairwise_iff_getElem]; intro a b ha hb hab; rw [List.length_set] at ha hb; have hp := List.pairwise_iff_getElem.1 h.ne a b ha hb hab; rw [List.getElem_set, List.getElem_set]
  split
  ·
   next e =>
   split
   · omega
   ·
    intro e3; have hb2 : b < rs.length := by simpa using hb
    have e4 : (rs.map (·.1))[b] = rs[b].1 := by simp
    rw [e4] at e3; have h5 := hmem b rs[b] (List.getElem?_eq_getElem hb2) (by omega); rcases hat with e6 | e6
    · exact h5 (by rw [← e3, e6])
    · have := hlt rs[b] (List.getElem_mem hb2); omega
  ·
   split
   ·
    intro e3; have ha2 : a < rs.length := by simpa using ha
    have e4 : (rs.map (·.1))[a] = rs[a].1 := by simp
    rw [e4] at e3; have h5 := hmem a rs[a] (List.getElem?_eq_getElem ha2) (by omega); rcases hat with e6 | e6
    · exact h5 (by rw [e3, e6])
    · have := hlt rs[a] (List.getElem_mem ha2); omega
   · exact hp
theorem RowsS.split {w c : World} {rs : List (Nat × Obj)} {b : Nat} {o : Obj} (h : RowsS w ((b, o) :: rs) c) : RowsS w rs c ∧ c.heap[b]? = some o ∧ w.heap.size ≤ b ∧ b ∉ rs.map (·.1) := by
 have hn := h.ne; rw [List.map_cons, List.nodup_cons] at hn; exact ⟨⟨fun i p hp => h.rows (i + 1) p hp, h.below, fun p hp => h.ge p (List.mem_cons_of_mem _ hp), hn.2⟩, h.rows 0 _ rfl, h.ge (b, o) (List.mem_cons_self ..), hn.1⟩
theorem RowsS.cons {w c : World} {rs : List (Nat × Obj)} {b : Nat} {o : Obj} (h : RowsS w rs c) (hz : c.heap[b]? = some o) (hg : w.heap.size ≤ b) (hn : b ∉ rs.map (·.1)) : RowsS w ((b, o) :: rs) c :=
 ⟨fun i p hp => by
  cases i with
  | zero => cases hp; exact hz
  | succ i => exact h.rows i p hp, h.below, fun p hp => (List.mem_cons.1 hp).elim (fun e => by rw [e]; exact hg) (fun e => h.ge p e), by rw [List.map_cons, List.nodup_cons]; exact ⟨hn, h.ne⟩⟩
theorem RowsS.setOther {w c : World} {rs : List (Nat × Obj)} {b : Nat} (h : RowsS w rs c) (hg : w.heap.size ≤ b) (hn : b ∉ rs.map (·.1)) (cs : Array Value) : RowsS w rs (c.setRow b cs) :=
 ⟨fun i p hp => (setRow_other _ _ _ _ (fun e => hn (by rw [← e]; exact List.mem_map.2 ⟨p, List.mem_of_getElem? hp, rfl⟩))).trans (h.rows i p hp), below_setRow h.below hg _, h.ge, h.ne⟩
theorem getO {L : List Oper} {i : Nat} {o : Oper} (h : L[i]? = some o) : L.toArray[i]? = some o := by rw [List.getElem?_toArray]; exact h
theorem aL1 {α : Type} {l : List α} {i : Nat} {a : α} : l.toArray.setIfInBounds i a = (l.set i a).toArray := List.setIfInBounds_toArray ..
theorem aL2 {α : Type} {a b : α} {l : List α} : (a :: l).set 0 b = b :: l := rfl
theorem aL3 {α : Type} {a b : α} {l : List α} {n : Nat} : (a :: l).set (n + 1) b = a :: l.set n b := rfl
section
variable {P : Program} {ops : Array Oper} {Q : Exit → Act → World → Prop} {S : World → Prop} {oi : Oper} {v : Value} {fuel : Nat} {listed : Array Bool} {a : Act} {w : World}
theorem tk (i : Nat) (hi : ops[i]? = some oi) (hc : (Region.noSelect ops && Region.free .any ops listed i && (Region.ready .any ops listed).contains i) = true)
 (hQ : ∀ c a w, Q (.panic c) (a.put oi.dst v) w → Q (.panic c) a w) (hw : Region.wanted oi (yielded ops a.tmps) = true) (hx : ∀ w, S w → (execOp a.eval oi).run P w = .ok (.value v) w) (hS : S w)
 (h : wpAnyH P .any ops Q S fuel (listed.setIfInBounds i true) (a.put oi.dst v) w) : wpAnyH P .any ops Q S (fuel + 1) listed a w := by
 simp only [Bool.and_eq_true] at hc; exact wpAnyH_take hi hc.1.1 hc.1.2 hc.2 hQ (Or.inl ⟨hw, hx⟩) hS h
theorem sk (i : Nat) (hi : ops[i]? = some oi) (hc : (Region.noSelect ops && Region.free .any ops listed i && (Region.ready .any ops listed).contains i) = true)
 (hQ : ∀ c a w, Q (.panic c) (a.put oi.dst undef) w → Q (.panic c) a w) (hw : Region.wanted oi (yielded ops a.tmps) = false) (hS : S w)
 (h : wpAnyH P .any ops Q S fuel (listed.setIfInBounds i true) (a.put oi.dst undef) w) : wpAnyH P .any ops Q S (fuel + 1) listed a w := by
 simp only [Bool.and_eq_true] at hc; exact wpAnyH_take hi hc.1.1 hc.1.2 hc.2 hQ (Or.inr ⟨hw, rfl⟩) hS h
end
theorem RowsS.row {w c : World} {rs : List (Nat × Obj)} (h : RowsS w rs c) (i : Nat) {b : Nat} {o : Obj} (hi : rs[i]? = some (b, o)) : c.heap[b]? = some o := h.rows i (b, o) hi
theorem RowsS.cell {w c : World} {rs : List (Nat × Obj)} (h : RowsS w rs c) (i j : Nat) {b : Nat} {cs : Array Value} {t : TypeId} {v : Value} (hi : rs[i]? = some (b, .cells cs t (0, 0))) (hj : cs.toList[j]? = some v) : c.cell? ⟨b, j, none⟩ = some v :=
 rowN (h.rows i _ hi) j v (by rw [← Array.getElem?_toList]; exact hj)
theorem RowsS.old {w c : World} {rs : List (Nat × Obj)} (h : RowsS w rs c) {b : Nat} {cs : Array Value} {t : TypeId} (hb : Hid (w.heap[b]? = some (.cells cs t (0, 0)))) (j : Nat) {v : Value} (hj : cs.toList[j]? = some v) : c.cell? ⟨b, j, none⟩ = some v :=
 rowN (blk_below hb.out h.below (blk_lt hb.out)) j v (by rw [← Array.getElem?_toList]; exact hj)
theorem RowsS.allocL {w c : World} {rs : List (Nat × Obj)} (h : RowsS w rs c) (o : Obj) : ∃ b, b = c.heap.size ∧ RowsS w rs (c.alloc o) ∧ (c.alloc o).heap[b]? = some o ∧ w.heap.size ≤ b ∧ b ∉ rs.map (·.1) :=
 ⟨_, rfl, h.step ((Below.refl _ _).alloc (Nat.le_refl _) o), heap_alloc_new _ _, h.below.size, fun hm => by
  obtain ⟨p, hp, e⟩ := List.mem_map.1 hm; obtain ⟨i, hi⟩ := List.getElem?_of_mem hp; have := blk_lt (h.rows i p hi)
  omega⟩
theorem RowsS.allocLD {w c : World} {rs : List (Nat × Obj)} (h : RowsS w rs c.drew) (o : Obj) : ∃ b, b = c.heap.size ∧ RowsS w rs (c.alloc o).drew ∧ (c.alloc o).drew.heap[b]? = some o ∧ w.heap.size ≤ b ∧ b ∉ rs.map (·.1) := by
 obtain ⟨b, h1, h2, h3, h4, h5⟩ := h.undrew.allocL o; exact ⟨b, h1, h2.drew, h3, h4, h5⟩
theorem exec_sliceAt {P : Program} {w : World} {o : Oper} {ev : Operand → Value} (t : TypeId) (x : Operand) (lo hi mx : Option Operand)
 (ho : o.op = .slice t x lo hi mx) (v' : Value) (hrun : (Instr.sliceAt t (ev x) (lo.map ev) (hi.map ev) (mx.map ev)).run P w = .ok v' w) : (execOp ev o).run P w = .ok (.value v') w := by
 unfold execOp; simp only [ho, Sem.run_bind, Sem.run_pure, Result.andThen_ok, hrun]
theorem larg_sub {α : Type} {R : α → List Value → World → Prop} {w : World} {s lo hi : Nat} {e t : TypeId} {a : Option Addr} {n c : Nat} {l : List α} (ht : Tryz.prog.underlying t = some (.slice e)) (he : Tryz.prog.elem t = e) (hsz : ∀ W, (sizeOf e).run Tryz.prog W = .ok s W) (h : LArg R s (.slice a n c) l w) (h1 : lo ≤ hi) (h2 : hi ≤ l.length) :
 LArg R s (.slice (if c = lo then a else a.map (·.add (lo * s))) (hi - lo) (c - lo)) ((l.take hi).drop lo) w ∧
 (∀ W, (Instr.sliceAt t (.slice a n c) (some (.int .i64 (lo : Int))) (some (.int .i64 (hi : Int))) none).run Tryz.prog W = .ok (.slice (if c = lo then a else a.map (·.add (lo * s))) (hi - lo) (c - lo)) W) ∧
 (lo = 0 → ∀ W, (Instr.sliceAt t (.slice a n c) none (some (.int .i64 (hi : Int))) none).run Tryz.prog W = .ok (.slice (if c = lo then a else a.map (·.add (lo * s))) (hi - lo) (c - lo)) W) ∧
 (hi = n → ∀ W, (Instr.sliceAt t (.slice a n c) (some (.int .i64 (lo : Int))) none none).run Tryz.prog W = .ok (.slice (if c = lo then a else a.map (·.add (lo * s))) (hi - lo) (c - lo)) W) := by
 obtain ⟨a1, c1, h3, h4, h5⟩ := h.slice; obtain ⟨rfl, rfl, rfl⟩ : a = a1 ∧ n = l.length ∧ c = c1 := by simpa using h3
 refine ⟨?_, fun W => ?_, fun e0 W => ?_, fun e0 W => ?_⟩
 ·
  have hl : ((l.take hi).drop lo).length = hi - lo := by rw [List.length_drop, List.length_take]; omega
  refine ⟨if c = lo then a else a.map (·.add (lo * s)), c - lo, by rw [hl], by omega, by omega, fun j x hj => ?_⟩; rw [List.getElem?_drop, List.getElem?_take] at hj
  split at hj
  ·
   have hjl := (List.getElem?_eq_some_iff.1 hj).1; obtain ⟨b, o, cs, rfl, e2, e3, e4, e5⟩ := h.at hj; refine ⟨b, o + lo * s, cs, ?_, e2, e3, ?_, e5⟩
   ·
    rw [if_neg (by omega)]; show some ((⟨b, o, none⟩ : Addr).add (lo * s)) = _; rw [Addr.add_mid]
   ·
    rw [Nat.add_assoc, ← Nat.add_mul]; exact e4
  · cases hj
 ·
  rw [run_sliceAt_slice (t := t) (h := by rw [he]; exact ht), run_slice_lh (t := t) (ht := by rw [he]; exact ht) (h0 := by omega) (h1 := by omega) (h2 := by omega), he, hsz]; simp only [Result.andThen_ok, sliced, Int.toNat_natCast]
 ·
  subst e0; rw [run_sliceAt_slice (t := t) (h := by rw [he]; exact ht), run_slice_h (t := t) (ht := by rw [he]; exact ht) (h0 := by omega) (h2 := by omega), he, hsz]; simp only [Result.andThen_ok, sliced, Int.toNat_natCast]
 ·
  rw [run_sliceAt_slice (t := t) (h := by rw [he]; exact ht), run_slice_l (t := t) (ht := by rw [he]; exact ht) (h0 := by omega) (h1 := by omega), he, hsz]; simp only [Result.andThen_ok, sliced, Int.toNat_natCast, e0]
theorem RowsS.fresh {w c : World} {rs : List (Nat × Obj)} {b : Nat} (h : RowsS w rs c) (hb : c.heap.size ≤ b) : w.heap.size ≤ b ∧ b ∉ rs.map (·.1) :=
 ⟨Nat.le_trans h.below.size hb, fun hm => by
  obtain ⟨p, hp, e⟩ := List.mem_map.1 hm; obtain ⟨i, hi⟩ := List.getElem?_of_mem hp; have := blk_lt (h.rows i p hi)
  omega⟩
def skB (ops : Array Oper) : List (Nat × Option Nat) → Array Bool → Act → Bool
 | [], _, _ => true
 | p :: r, listed, a => (match ops[p.1]? with
  | some o => !(Region.wanted o (yielded ops a.tmps)) && decide (o.dst = p.2) && (Region.noSelect ops && Region.free .any ops listed p.1 && (Region.ready .any ops listed).contains p.1)
  | none => false) && skB ops r (listed.setIfInBounds p.1 true) (a.put p.2 undef)
theorem skl {P : Program} {ops : Array Oper} {Q : Exit → Act → World → Prop} {S : World → Prop} (n : Nat) (ids : List (Nat × Option Nat)) {fuel : Nat} {listed : Array Bool} {a : Act} {w : World} (hn : fuel = n + ids.length) (hc : skB ops ids listed a = true)
 (hQ : ∀ c a b w, Q (.panic c) a w → Q (.panic c) b w) (hS : S w)
 (h : wpAnyH P .any ops Q S n (ids.foldl (fun l p => l.setIfInBounds p.1 true) listed) (ids.foldl (fun b p => b.put p.2 undef) a) w) : wpAnyH P .any ops Q S fuel listed a w := by
 subst hn
 induction ids generalizing listed a with
 | nil => exact h
 | cons p r ih =>
  unfold skB at hc; rw [Bool.and_eq_true] at hc; obtain ⟨h1, h2⟩ := hc
  cases ho : ops[p.1]? with
  | none => rw [ho] at h1; cases h1
  | some o =>
   rw [ho] at h1; simp only [Bool.and_eq_true, Bool.not_eq_true', decide_eq_true_eq] at h1; obtain ⟨⟨h3, h4⟩, ⟨h5, h6⟩, h7⟩ := h1; rw [List.length_cons, ← Nat.add_assoc]; refine sk p.1 ho (by simp only [Bool.and_eq_true]; exact ⟨⟨h5, h6⟩, h7⟩) (fun c a w => hQ c _ _ w) h3 hS ?_; rw [h4]; exact ih h2 h
theorem RowsS.oldRow {w c : World} {rs : List (Nat × Obj)} (h : RowsS w rs c) {b : Nat} {o : Obj} (hb : Hid (w.heap[b]? = some o)) : c.heap[b]? = some o := blk_below hb.out h.below (blk_lt hb.out)
theorem RowsS.allocB {w c : World} {rs : List (Nat × Obj)} (h : RowsS w rs c) (o : Obj) : ∃ b, b = c.heap.size ∧ RowsS w rs (c.alloc o) ∧ (c.alloc o).heap[b]? = some o ∧ w.heap.size ≤ b ∧ b ∉ rs.map (·.1) ∧ Below c.heap.size c (c.alloc o) := by
 obtain ⟨b, h1, h2, h3, h4, h5⟩ := h.allocL o; exact ⟨b, h1, h2, h3, h4, h5, (Below.refl _ _).alloc (Nat.le_refl _) _⟩
theorem RowsS.allocBD {w c : World} {rs : List (Nat × Obj)} (h : RowsS w rs c.drew) (o : Obj) : ∃ b, b = c.heap.size ∧ RowsS w rs (c.alloc o).drew ∧ (c.alloc o).drew.heap[b]? = some o ∧ w.heap.size ≤ b ∧ b ∉ rs.map (·.1) ∧ Below c.heap.size c (c.alloc o).drew := by
 obtain ⟨b, h1, h2, h3, h4, h5⟩ := h.allocLD o; exact ⟨b, h1, h2, h3, h4, h5, ((Below.refl _ _).alloc (Nat.le_refl _) _).drew⟩
section
variable {P : Program} {ops : Array Oper} {Q : Exit → Act → World → Prop} {S : World → Prop} {oi : Oper} {v : Value} {fuel : Nat} {listed : Array Bool} {a : Act} {w : World}
theorem tn {a' : Act} {l' : Array Bool} (i : Nat) (h : wpAnyH P .any ops Q S fuel l' a' w) (hi : ops[i]? = some oi := by exact getO rfl) (hc : (Region.noSelect ops && Region.free .any ops listed i && (Region.ready .any ops listed).contains i) = true := by kernel_rfl)
 (hQ : ∀ c a w, Q (.panic c) (a.put oi.dst v) w → Q (.panic c) a w := by exact fun _ _ _ h => h) (hw : Region.wanted oi (yielded ops a.tmps) = true := by rfl) (hx : ∀ w, S w → (execOp a.eval oi).run P w = .ok (.value v) w := by (intro wz hSw; go_simp; try with_reducible rfl)) (hS : S w := by assumption)
 (ha : a.put oi.dst v = a' := by (try simp only [Act.put, aL1, aL2, aL3]); first | done | exact rfl) (hl : listed.setIfInBounds i true = l' := by (try simp only [aL1, aL2, aL3]); first | done | exact rfl) : wpAnyH P .any ops Q S (fuel + 1) listed a w := by
 subst ha hl; exact tk i hi hc hQ hw hx hS h
theorem skn {a' : Act} {l' : Array Bool} (n : Nat) (ids : List (Nat × Option Nat)) (h : wpAnyH P .any ops Q S n l' a' w) (hn : fuel = n + ids.length := by rfl) (hc : skB ops ids listed a = true := by kernel_rfl)
 (hQ : ∀ c a b w, Q (.panic c) a w → Q (.panic c) b w := by exact fun _ _ _ _ h => h) (hS : S w := by assumption)
 (ha : ids.foldl (fun b p => b.put p.2 undef) a = a' := by (try simp only [List.foldl_cons, List.foldl_nil, Act.put, aL1, aL2, aL3]); first | done | exact rfl) (hl : ids.foldl (fun l p => l.setIfInBounds p.1 true) listed = l' := by (try simp only [List.foldl_cons, List.foldl_nil, aL1, aL2, aL3]); first | done | exact rfl) : wpAnyH P .any ops Q S fuel listed a w := by
 subst ha hl; exact skl n ids hn hc hQ hS h
theorem rd1 (i : Nat) (h : ∀ K' : Act → World → Prop, Shut (∀ a w, S w → (S w → wpAnyH P .any ops Q S fuel (listed.setIfInBounds i true) a w) → K' a w) → if Region.wanted oi (yielded ops a.tmps) = true then Oper.wp P oi a w K' Q else K' (a.put oi.dst undef) w)
 (ho : ops[i]? = some oi := by exact getO rfl) (hr : Region.ready .any ops listed = [i] := by kernel_rfl) : wpAnyH P .any ops Q S (fuel + 1) listed a w :=
 wpAnyH_ready hr (by simp) (AllReadyH.cons ho h AllReadyH.nil)
theorem rd2 {oj : Oper} (i j : Nat) (h : ∀ K' : Act → World → Prop, Shut (∀ a w, S w → (S w → wpAnyH P .any ops Q S fuel (listed.setIfInBounds i true) a w) → K' a w) → if Region.wanted oi (yielded ops a.tmps) = true then Oper.wp P oi a w K' Q else K' (a.put oi.dst undef) w)
 (h2 : ∀ K' : Act → World → Prop, Shut (∀ a w, S w → (S w → wpAnyH P .any ops Q S fuel (listed.setIfInBounds j true) a w) → K' a w) → if Region.wanted oj (yielded ops a.tmps) = true then Oper.wp P oj a w K' Q else K' (a.put oj.dst undef) w)
 (ho : ops[i]? = some oi := by exact getO rfl) (ho2 : ops[j]? = some oj := by exact getO rfl) (hr : Region.ready .any ops listed = [i, j] := by kernel_rfl) : wpAnyH P .any ops Q S (fuel + 1) listed a w :=
 wpAnyH_ready hr (by simp) (AllReadyH.cons ho h (AllReadyH.cons ho2 h2 AllReadyH.nil))
theorem rd3 {oj ok : Oper} (i j k : Nat) (h : ∀ K' : Act → World → Prop, Shut (∀ a w, S w → (S w → wpAnyH P .any ops Q S fuel (listed.setIfInBounds i true) a w) → K' a w) → if Region.wanted oi (yielded ops a.tmps) = true then Oper.wp P oi a w K' Q else K' (a.put oi.dst undef) w)
 (h2 : ∀ K' : Act → World → Prop, Shut (∀ a w, S w → (S w → wpAnyH P .any ops Q S fuel (listed.setIfInBounds j true) a w) → K' a w) → if Region.wanted oj (yielded ops a.tmps) = true then Oper.wp P oj a w K' Q else K' (a.put oj.dst undef) w)
 (h3 : ∀ K' : Act → World → Prop, Shut (∀ a w, S w → (S w → wpAnyH P .any ops Q S fuel (listed.setIfInBounds k true) a w) → K' a w) → if Region.wanted ok (yielded ops a.tmps) = true then Oper.wp P ok a w K' Q else K' (a.put ok.dst undef) w)
 (ho : ops[i]? = some oi := by exact getO rfl) (ho2 : ops[j]? = some oj := by exact getO rfl) (ho3 : ops[k]? = some ok := by exact getO rfl) (hr : Region.ready .any ops listed = [i, j, k] := by kernel_rfl) : wpAnyH P .any ops Q S (fuel + 1) listed a w :=
 wpAnyH_ready hr (by simp) (AllReadyH.cons ho h (AllReadyH.cons ho2 h2 (AllReadyH.cons ho3 h3 AllReadyH.nil)))
theorem rdone (h : Q .normal a w) (hr : Region.ready .any ops listed = [] := by kernel_rfl) : wpAnyH P .any ops Q S fuel listed a w := wpAnyH_done hr h _
end
def setL (cs : Array Value) : Nat → List Value → Array Value
 | _, [] => cs
 | o, v :: r => setL (cs.setIfInBounds o v) (o + 1) r
theorem RowsS.setCells {w : World} {i b : Nat} {t : TypeId} : ∀ (vs : List Value) (o : Nat) {c : World} {rs : List (Nat × Obj)} {cs : Array Value}, RowsS w rs c → rs[i]? = some (b, .cells cs t (0, 0)) → RowsS w (rs.set i (b, .cells (setL cs o vs) t (0, 0))) (c.setCells b o vs)
 | [], o, c, rs, cs, h, hi => by
  have e : rs.set i (b, .cells cs t (0, 0)) = rs := by
   apply List.ext_getElem?
   intro k; rw [List.getElem?_set]
   split
   ·
    next e =>
    subst e
    split
    · rw [hi]
    · next hl => rw [List.getElem?_eq_none (by omega)]
   · rfl
  show RowsS w (rs.set i (b, .cells cs t (0, 0))) c; rw [e]; exact h
 | v :: r, o, c, rs, cs, h, hi => by
  have h1 : RowsS w (rs.set i (b, .cells (cs.setIfInBounds o v) t (0, 0))) (c.setCell ⟨b, o, none⟩ v) := by
   rw [setCell_eq_setRow c b o cs t (0, 0) v (h.rows i _ hi)]; exact h.set hi
  have hl := (List.getElem?_eq_some_iff.1 hi).1; have h2 := RowsS.setCells r (o + 1) h1 (cs := cs.setIfInBounds o v) (by rw [List.getElem?_set, if_pos rfl, if_pos hl]); rw [List.set_set] at h2; exact h2
theorem there_row {w : World} {b : Nat} {cs : Array Value} {t : TypeId} (h : w.heap[b]? = some (.cells cs t (0, 0))) (o n : Nat) (hn : o + n ≤ cs.size) : w.there b o n := fun j hj =>
 ⟨by rw [cell_of_row _ _ _ _ _ _ h, Array.getElem?_eq_getElem (by omega)]; rfl, frozen_of_row _ _ _ _ _ h⟩
theorem ldr {w : World} {rs : List (Nat × Obj)} {b o : Nat} {cs : List Value} {P : Program} {oi : Oper} {ev : Operand → Value} {ty : TypeId} {x : Operand} {d : TypeDesc} (H : Hid (w.rangeAt b o cs)) (hb : b < w.heap.size) {n : Nat} (U : P.underlying ty = some d) (I : (P.info? ty).map (·.size) = some n)
 (ho : oi.op = .load ty x := by exact rfl) (hx : ev x = .pointer (some ⟨b, o, none⟩) := by exact rfl) (hd : (match d with | .struct _ | .array _ _ => true | _ => false) = true := by exact rfl) (hn : cs.length = n := by exact rfl) : ∀ wz, RowsS w rs wz → (execOp ev oi).run P wz = .ok (.value (.agg cs.toArray)) wz :=
 fun _ hSw => exec_load_range ty x ho b o hx cs d (rangeAt_below H.out hSw.below hb) U hd (by rw [I, hn])
theorem ldw {w : World} {rs : List (Nat × Obj)} {g : Nat} {cs : Array Value} {t : TypeId} {P : Program} {oi : Oper} {ev : Operand → Value} {ty : TypeId} {x : Operand} {d : TypeDesc} {n : Nat} (k : Nat) (U : P.underlying ty = some d) (I : (P.info? ty).map (·.size) = some n) (hi : rs[k]? = some (g, .cells cs t (0, 0)) := by exact rfl)
 (ho : oi.op = .load ty x := by exact rfl) (hx : ev x = .pointer (some ⟨g, 0, none⟩) := by exact rfl) (hd : (match d with | .struct _ | .array _ _ => true | _ => false) = true := by exact rfl) (hn : cs.size = n := by exact rfl) : ∀ wz, RowsS w rs wz → (execOp ev oi).run P wz = .ok (.value (.agg cs)) wz :=
 fun _ hSw => exec_load_row ty x ho g hx t cs (0, 0) d (hSw.row k hi) U hd (by rw [I, hn])
theorem cx {S Φ R : World → Prop} (f : ∀ wz, S wz → Φ wz) (h : ∀ wz, Φ wz → R wz := by (intro wz e4; go_simp; try with_reducible rfl)) : ∀ wz, S wz → R wz := fun wz hs => h wz (f wz hs)
theorem rdn {P : Program} {ops : Array Oper} {Q : Exit → Act → World → Prop} {S : World → Prop} {fuel : Nat} {listed : Array Bool} {a : Act} {w : World} (h : Q .normal a w) (hr : Region.ready .any ops listed = [] := by kernel_rfl) : wpAnyH P .any ops (NoPanic Q) S fuel listed a w := wpAnyH_done hr (NoPanic.normal h) _
theorem wrd {P : Program} {id : Nat} {ops : Array Oper} {Q : Exit → Act → World → Prop} {S : World → Prop} {a : Act} {w : World} (hS : S w.drew) (h : S w.drew → wpAnyH P .any ops (NoPanic Q) S ops.size (Array.replicate ops.size false) a w.drew) (hm : P.follows .mixedOrders = true := by kernel_rfl) : (Code.region id ops true).wp P Q a w := wp_region_noPanic (wp_region_held_drew hm hS h)
end Go.Proofs.YtjbjpkhibcnenaaGreatDoor

