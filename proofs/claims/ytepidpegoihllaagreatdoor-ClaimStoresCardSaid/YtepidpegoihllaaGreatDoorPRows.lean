/- Rows of the call's own, carried along. -/
import Derived.Test.YtepidpegoihllaaGreatDoorUOpen
import Derived.Test.YtepidpegoihllaaGreatDoorLoad
namespace Go.Proofs.YtepidpegoihllaaGreatDoor
open Go.RowKit
/-- blocks of the call's own that hold rs; what was there before w is as it was -/
structure RowsS (w : World) (rs : List (Nat × Obj)) (c : World) : Prop where
  rows : ∀ (i : Nat) (p : Nat × Obj), rs[i]? = some p → c.heap[p.1]? = some p.2
  below : Below w.heap.size w c
  ge : ∀ p ∈ rs, w.heap.size ≤ p.1
  ne : (rs.map (·.1)).Nodup
theorem RowsS.nil (w : World) : RowsS w [] w := ⟨fun i p h => by simp at h, Below.refl _ _, fun p h => by simp at h, by simp⟩
theorem RowsS.step {w c c' : World} {rs : List (Nat × Obj)} (h : RowsS w rs c) (hb : Below c.heap.size c c') : RowsS w rs c' :=
  ⟨fun i p hp => blk_below (h.rows i p hp) hb (blk_lt (h.rows i p hp)), h.below.trans (hb.mono h.below.size), h.ge, h.ne⟩
theorem RowsS.drew {w c : World} {rs : List (Nat × Obj)} (h : RowsS w rs c) : RowsS w rs c.drew := h.step (Below.refl _ _).drew
theorem RowsS.drewN {w c : World} {rs : List (Nat × Obj)} (h : RowsS w rs c) (n : Nat) : RowsS w rs (c.drewN n) := h.step (below_drewN (Below.refl _ _))
theorem RowsS.alloc {w c : World} {rs : List (Nat × Obj)} (h : RowsS w rs c) (o : Obj) : RowsS w (rs ++ [(c.heap.size, o)]) (c.alloc o) := by
  have hb : Below c.heap.size c (c.alloc o) := (Below.refl _ _).alloc (Nat.le_refl _) o
  have h2 := h.step hb
  have hlt : ∀ p ∈ rs, p.1 < c.heap.size := fun p hp => by
    obtain ⟨i, hi⟩ := List.getElem?_of_mem hp
    exact blk_lt (h.rows i p hi)
  refine ⟨fun i p hp => ?_, h2.below, fun p hp => ?_, ?_⟩
  · rw [List.getElem?_append] at hp
    split at hp
    · exact h2.rows i p hp
    · cases hi : i - rs.length with
      | zero => rw [hi] at hp; cases hp; exact heap_alloc_new _ _
      | succ j => rw [hi] at hp; simp at hp
  · rcases List.mem_append.1 hp with hp | hp
    · exact h.ge p hp
    · simp at hp; subst hp; exact h.below.size
  · rw [List.map_append, List.nodup_append]
    refine ⟨h.ne, by simp, fun a ha b hb => ?_⟩
    obtain ⟨p, hp, rfl⟩ := List.mem_map.1 ha
    simp at hb
    have := hlt p hp
    omega
theorem RowsS.set {w c : World} {rs : List (Nat × Obj)} (h : RowsS w rs c) {i b : Nat} {cs cs' : Array Value} {t : TypeId} (hi : rs[i]? = some (b, .cells cs t (0, 0))) : RowsS w (rs.set i (b, .cells cs' t (0, 0))) (c.setRow b cs') := by
  have hmem : ∀ (j : Nat) (p : Nat × Obj), rs[j]? = some p → j ≠ i → p.1 ≠ b := fun j p hj hne e => by
    obtain ⟨h1, e1⟩ := List.getElem?_eq_some_iff.1 hj
    obtain ⟨h2, e2⟩ := List.getElem?_eq_some_iff.1 hi
    have e3 : (rs.map (·.1))[j]'(by simp [h1]) = (rs.map (·.1))[i]'(by simp [h2]) := by
      simp only [List.getElem_map, e1, e2, e]
    have hp := List.pairwise_iff_getElem.1 h.ne
    rcases Nat.lt_or_gt_of_ne hne with hl | hl
    · exact hp j i (by simp [h1]) (by simp [h2]) hl e3
    · exact hp i j (by simp [h2]) (by simp [h1]) hl e3.symm
  refine ⟨fun j p hp => ?_, below_setRow h.below (h.ge _ (List.mem_of_getElem? hi)) _, fun p hp => ?_, ?_⟩
  · rw [List.getElem?_set] at hp
    split at hp
    · next e =>
      split at hp
      · cases hp
        exact setRow_heap _ _ _ _ _ _ (h.rows i _ hi)
      · cases hp
    · next e =>
      exact (setRow_other _ _ _ _ (hmem j p hp (fun e2 => e e2.symm))).trans (h.rows j p hp)
  · rcases List.mem_or_eq_of_mem_set hp with hp | rfl
    · exact h.ge p hp
    · exact h.ge (b, .cells cs t (0, 0)) (List.mem_of_getElem? hi)
  · have e : (rs.set i (b, Obj.cells cs' t (0, 0))).map (·.1) = rs.map (·.1) := by
      rw [List.map_set]
      apply List.ext_getElem?
      intro k
      rw [List.getElem?_set]
      split
      · next e =>
        subst e
        split
        · rw [List.getElem?_map, hi]; rfl
        · next hl => rw [List.getElem?_eq_none (by simp at hl ⊢; omega)]
      · rfl
    rw [e]
    exact h.ne
theorem RowsS.mono {w w0 c : World} {rs : List (Nat × Obj)} (h : RowsS w rs c) (hw : Below w0.heap.size w0 w) : RowsS w0 rs c :=
  ⟨h.rows, hw.trans (h.below.mono hw.size), fun p hp => Nat.le_trans hw.size (h.ge p hp), h.ne⟩
theorem RowsS.take {w c : World} {rs : List (Nat × Obj)} (h : RowsS w rs c) (n : Nat) : RowsS w (rs.take n) c :=
  ⟨fun i p hp => (by
    rw [List.getElem?_take] at hp
    split at hp
    · exact h.rows i p hp
    · cases hp), h.below, fun p hp => h.ge p (List.mem_of_mem_take hp), by rw [List.map_take]; exact h.ne.sublist (List.take_sublist _ _)⟩
/-- one row grew, in its place or in a new block -/
theorem RowsS.grow {w c c' : World} {rs : List (Nat × Obj)} {i g g' : Nat} {o o' : Obj} (h : RowsS w rs c) (hi : rs[i]? = some (g, o)) (hg : c.grownBy c' (some g)) (hat : g' = g ∨ g' = c.heap.size) (ho : c'.heap[g']? = some o') : RowsS w (rs.set i (g', o')) c' := by
  have hlt : ∀ p ∈ rs, p.1 < c.heap.size := fun p hp => by
    obtain ⟨i, hi⟩ := List.getElem?_of_mem hp
    exact blk_lt (h.rows i p hi)
  have hmem : ∀ (j : Nat) (p : Nat × Obj), rs[j]? = some p → j ≠ i → p.1 ≠ g := fun j p hj hne e => by
    obtain ⟨h1, e1⟩ := List.getElem?_eq_some_iff.1 hj
    obtain ⟨h2, e2⟩ := List.getElem?_eq_some_iff.1 hi
    have e3 : (rs.map (·.1))[j]'(by simp [h1]) = (rs.map (·.1))[i]'(by simp [h2]) := by
      simp only [List.getElem_map, e1, e2, e]
    have hp := List.pairwise_iff_getElem.1 h.ne
    rcases Nat.lt_or_gt_of_ne hne with hl | hl
    · exact hp j i (by simp [h1]) (by simp [h2]) hl e3
    · exact hp i j (by simp [h2]) (by simp [h1]) hl e3.symm
  have hgm := List.mem_of_getElem? hi
  have hge : w.heap.size ≤ g' := by
    rcases hat with e | e
    · rw [e]; exact h.ge _ hgm
    · rw [e]; exact h.below.size
  refine ⟨fun j p hp => ?_, h.below.grown hg h.below.size (fun k e => by cases e; exact h.ge _ hgm), fun p hp => ?_, ?_⟩
  · rw [List.getElem?_set] at hp
    split at hp
    · split at hp
      · cases hp
        exact ho
      · cases hp
    · next e =>
      have hne := hmem j p hp (fun e2 => e e2.symm)
      exact (hg.block p.1 (hlt p (List.mem_of_getElem? hp)) (by simp [hne])).trans (h.rows j p hp)
  · rcases List.mem_or_eq_of_mem_set hp with hp | rfl
    · exact h.ge p hp
    · exact hge
  · rw [List.map_set]
    have hli : i < (rs.map (·.1)).length := by rw [List.length_map]; exact (List.getElem?_eq_some_iff.1 hi).1
    rw [List.Nodup, List.pairwise_iff_getElem]
    intro a b ha hb hab
    rw [List.length_set] at ha hb
    have hp := List.pairwise_iff_getElem.1 h.ne a b ha hb hab
    rw [List.getElem_set, List.getElem_set]
    split
    · next e =>
      split
      · omega
      · intro e3
        have hb2 : b < rs.length := by simpa using hb
        have e4 : (rs.map (·.1))[b] = rs[b].1 := by simp
        rw [e4] at e3
        have h5 := hmem b rs[b] (List.getElem?_eq_getElem hb2) (by omega)
        rcases hat with e6 | e6
        · exact h5 (by rw [← e3, e6])
        · have := hlt rs[b] (List.getElem_mem hb2); omega
    · split
      · intro e3
        have ha2 : a < rs.length := by simpa using ha
        have e4 : (rs.map (·.1))[a] = rs[a].1 := by simp
        rw [e4] at e3
        have h5 := hmem a rs[a] (List.getElem?_eq_getElem ha2) (by omega)
        rcases hat with e6 | e6
        · exact h5 (by rw [e3, e6])
        · have := hlt rs[a] (List.getElem_mem ha2); omega
      · exact hp
theorem RowsS.split {w c : World} {rs : List (Nat × Obj)} {b : Nat} {o : Obj} (h : RowsS w ((b, o) :: rs) c) : RowsS w rs c ∧ c.heap[b]? = some o ∧ w.heap.size ≤ b ∧ b ∉ rs.map (·.1) := by
  have hn := h.ne
  rw [List.map_cons, List.nodup_cons] at hn
  exact ⟨⟨fun i p hp => h.rows (i + 1) p hp, h.below, fun p hp => h.ge p (List.mem_cons_of_mem _ hp), hn.2⟩, h.rows 0 _ rfl, h.ge (b, o) (List.mem_cons_self ..), hn.1⟩
theorem RowsS.cons {w c : World} {rs : List (Nat × Obj)} {b : Nat} {o : Obj} (h : RowsS w rs c) (hz : c.heap[b]? = some o) (hg : w.heap.size ≤ b) (hn : b ∉ rs.map (·.1)) : RowsS w ((b, o) :: rs) c :=
  ⟨fun i p hp => by
    cases i with
    | zero => cases hp; exact hz
    | succ i => exact h.rows i p hp, h.below, fun p hp => (List.mem_cons.1 hp).elim (fun e => by rw [e]; exact hg) (fun e => h.ge p e), by rw [List.map_cons, List.nodup_cons]; exact ⟨hn, h.ne⟩⟩
theorem RowsS.setOther {w c : World} {rs : List (Nat × Obj)} {b : Nat} (h : RowsS w rs c) (hg : w.heap.size ≤ b) (hn : b ∉ rs.map (·.1)) (cs : Array Value) : RowsS w rs (c.setRow b cs) :=
  ⟨fun i p hp => (setRow_other _ _ _ _ (fun e => hn (by rw [← e]; exact List.mem_map.2 ⟨p, List.mem_of_getElem? hp, rfl⟩))).trans (h.rows i p hp), below_setRow h.below hg _, h.ge, h.ne⟩
theorem getO {L : List Oper} {i : Nat} {o : Oper} (h : L[i]? = some o) : L.toArray[i]? = some o := by rw [List.getElem?_toArray]; exact h
theorem aL1 {α : Type} {l : List α} {i : Nat} {a : α} : l.toArray.setIfInBounds i a = (l.set i a).toArray := List.setIfInBounds_toArray ..
theorem aL2 {α : Type} {a b : α} {l : List α} : (a :: l).set 0 b = b :: l := rfl
theorem aL3 {α : Type} {a b : α} {l : List α} {n : Nat} : (a :: l).set (n + 1) b = a :: l.set n b := rfl
section
variable {P : Program} {ops : Array Oper} {Q : Exit → Act → World → Prop} {S : World → Prop} {oi : Oper} {v : Value} {fuel : Nat} {listed : Array Bool} {a : Act} {w : World}
theorem tk (i : Nat) (hi : ops[i]? = some oi) (hc : (Region.noSelect ops && Region.free .any ops listed i && (Region.ready .any ops listed).contains i) = true)
    (hQ : ∀ c a w, Q (.panic c) (a.put oi.dst v) w → Q (.panic c) a w) (hw : Region.wanted oi (yielded ops a.tmps) = true) (hx : ∀ w, S w → (execOp a.eval oi).run P w = .ok (.value v) w) (hS : S w)
    (h : wpAnyH P .any ops Q S fuel (listed.setIfInBounds i true) (a.put oi.dst v) w) : wpAnyH P .any ops Q S (fuel + 1) listed a w := by
  simp only [Bool.and_eq_true] at hc
  exact wpAnyH_take hi hc.1.1 hc.1.2 hc.2 hQ (Or.inl ⟨hw, hx⟩) hS h
theorem sk (i : Nat) (hi : ops[i]? = some oi) (hc : (Region.noSelect ops && Region.free .any ops listed i && (Region.ready .any ops listed).contains i) = true)
    (hQ : ∀ c a w, Q (.panic c) (a.put oi.dst undef) w → Q (.panic c) a w) (hw : Region.wanted oi (yielded ops a.tmps) = false) (hS : S w)
    (h : wpAnyH P .any ops Q S fuel (listed.setIfInBounds i true) (a.put oi.dst undef) w) : wpAnyH P .any ops Q S (fuel + 1) listed a w := by
  simp only [Bool.and_eq_true] at hc
  exact wpAnyH_take hi hc.1.1 hc.1.2 hc.2 hQ (Or.inr ⟨hw, rfl⟩) hS h
end
theorem RowsS.row {w c : World} {rs : List (Nat × Obj)} (h : RowsS w rs c) (i : Nat) {b : Nat} {o : Obj} (hi : rs[i]? = some (b, o)) : c.heap[b]? = some o := h.rows i (b, o) hi
theorem RowsS.cell {w c : World} {rs : List (Nat × Obj)} (h : RowsS w rs c) (i j : Nat) {b : Nat} {cs : Array Value} {t : TypeId} {v : Value} (hi : rs[i]? = some (b, .cells cs t (0, 0))) (hj : cs.toList[j]? = some v) : c.cell? ⟨b, j, none⟩ = some v :=
  rowN (h.rows i _ hi) j v (by rw [← Array.getElem?_toList]; exact hj)
theorem RowsS.old {w c : World} {rs : List (Nat × Obj)} (h : RowsS w rs c) {b : Nat} {cs : Array Value} {t : TypeId} (hb : Hid (w.heap[b]? = some (.cells cs t (0, 0)))) (j : Nat) {v : Value} (hj : cs.toList[j]? = some v) : c.cell? ⟨b, j, none⟩ = some v :=
  rowN (blk_below hb.out h.below (blk_lt hb.out)) j v (by rw [← Array.getElem?_toList]; exact hj)
/-- these operations are behind a guard that is false, one after the other -/
def skB (ops : Array Oper) : List (Nat × Option Nat) → Array Bool → Act → Bool
  | [], _, _ => true
  | p :: r, listed, a => (match ops[p.1]? with
    | some o => !(Region.wanted o (yielded ops a.tmps)) && decide (o.dst = p.2) && (Region.noSelect ops && Region.free .any ops listed p.1 && (Region.ready .any ops listed).contains p.1)
    | none => false) && skB ops r (listed.setIfInBounds p.1 true) (a.put p.2 undef)
theorem skl {P : Program} {ops : Array Oper} {Q : Exit → Act → World → Prop} {S : World → Prop} (n : Nat) (ids : List (Nat × Option Nat)) {fuel : Nat} {listed : Array Bool} {a : Act} {w : World} (hn : fuel = n + ids.length) (hc : skB ops ids listed a = true)
    (hQ : ∀ c a b w, Q (.panic c) a w → Q (.panic c) b w) (hS : S w)
    (h : wpAnyH P .any ops Q S n (ids.foldl (fun l p => l.setIfInBounds p.1 true) listed) (ids.foldl (fun b p => b.put p.2 undef) a) w) : wpAnyH P .any ops Q S fuel listed a w := by
  subst hn
  induction ids generalizing listed a with
  | nil => exact h
  | cons p r ih =>
    unfold skB at hc
    rw [Bool.and_eq_true] at hc
    obtain ⟨h1, h2⟩ := hc
    cases ho : ops[p.1]? with
    | none => rw [ho] at h1; cases h1
    | some o =>
      rw [ho] at h1
      simp only [Bool.and_eq_true, Bool.not_eq_true', decide_eq_true_eq] at h1
      obtain ⟨⟨h3, h4⟩, ⟨h5, h6⟩, h7⟩ := h1
      rw [List.length_cons, ← Nat.add_assoc]
      refine sk p.1 ho (by simp only [Bool.and_eq_true]; exact ⟨⟨h5, h6⟩, h7⟩) (fun c a w => hQ c _ _ w) h3 hS ?_
      rw [h4]
      exact ih h2 h
section
variable {P : Program} {ops : Array Oper} {Q : Exit → Act → World → Prop} {S : World → Prop} {oi : Oper} {v : Value} {fuel : Nat} {listed : Array Bool} {a : Act} {w : World}
/-- tk, its small premises by themselves -/
theorem tn (i : Nat) (h : wpAnyH P .any ops Q S fuel (listed.setIfInBounds i true) (a.put oi.dst v) w) (hi : ops[i]? = some oi := by exact getO rfl) (hc : (Region.noSelect ops && Region.free .any ops listed i && (Region.ready .any ops listed).contains i) = true := by kernel_rfl)
    (hQ : ∀ c a w, Q (.panic c) (a.put oi.dst v) w → Q (.panic c) a w := by exact fun _ _ _ h => h) (hw : Region.wanted oi (yielded ops a.tmps) = true := by rfl) (hx : ∀ w, S w → (execOp a.eval oi).run P w = .ok (.value v) w := by (intro wz hSw; go_simp; try with_reducible rfl)) (hS : S w := by assumption) : wpAnyH P .any ops Q S (fuel + 1) listed a w :=
  tk i hi hc hQ hw hx hS h
theorem skn (n : Nat) (ids : List (Nat × Option Nat)) (h : wpAnyH P .any ops Q S n (ids.foldl (fun l p => l.setIfInBounds p.1 true) listed) (ids.foldl (fun b p => b.put p.2 undef) a) w) (hn : fuel = n + ids.length := by rfl) (hc : skB ops ids listed a = true := by kernel_rfl)
    (hQ : ∀ c a b w, Q (.panic c) a w → Q (.panic c) b w := by exact fun _ _ _ _ h => h) (hS : S w := by assumption) : wpAnyH P .any ops Q S fuel listed a w := skl n ids hn hc hQ hS h
/-- the one operation that may come up -/
theorem rd1 (i : Nat) (h : ∀ K' : Act → World → Prop, Shut (∀ a w, S w → (S w → wpAnyH P .any ops Q S fuel (listed.setIfInBounds i true) a w) → K' a w) → if Region.wanted oi (yielded ops a.tmps) = true then Oper.wp P oi a w K' Q else K' (a.put oi.dst undef) w)
    (ho : ops[i]? = some oi := by exact getO rfl) (hr : Region.ready .any ops listed = [i] := by kernel_rfl) : wpAnyH P .any ops Q S (fuel + 1) listed a w :=
  wpAnyH_ready hr (by simp) (AllReadyH.cons ho h AllReadyH.nil)
theorem rdone (h : Q .normal a w) (hr : Region.ready .any ops listed = [] := by kernel_rfl) : wpAnyH P .any ops Q S fuel listed a w := wpAnyH_done hr h _
end
end Go.Proofs.YtepidpegoihllaaGreatDoor

