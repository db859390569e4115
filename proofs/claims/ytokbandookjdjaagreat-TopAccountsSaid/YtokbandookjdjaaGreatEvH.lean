/- A symbolic evaluator of the model's code: heaps, and what a piece of code does to the world. -/
import Derived.Test.YtokbandookjdjaaGreatEvS
import Derived.Below
namespace Go.Proofs.YtokbandookjdjaaGreat.Ev
open Go
theorem heap_get_nil (i : Nat) : Heap.get [] i = none := rfl
theorem heap_get_cons (p : Nat × AObj) (r : Heap) (i : Nat) : Heap.get (p :: r) i = bif Nat.beq p.1 i then some p.2 else Heap.get r i := rfl
theorem heap_put_nil (i : Nat) (o : AObj) : Heap.put [] i o = [(i, o)] := rfl
theorem heap_put_cons (p : Nat × AObj) (r : Heap) (i : Nat) (o : AObj) : Heap.put (p :: r) i o = bif Nat.beq p.1 i then (i, o) :: r else p :: Heap.put r i o := rfl
theorem heap_rm_cons (p : Nat × AObj) (r : Heap) (i : Nat) : Heap.rm (p :: r) i = bif Nat.beq p.1 i then Heap.rm r i else p :: Heap.rm r i := rfl
theorem nbeq_ne {i j : Nat} (h : i ≠ j) : Nat.beq i j = false := by
  cases e : Nat.beq i j with
  | false => rfl
  | true => exact absurd (Nat.eq_of_beq_eq_true e) h
theorem get_cons (i j : Nat) (o : AObj) (h : Heap) : Heap.get ((j, o) :: h) i = if j = i then some o else h.get i := by
  rw [heap_get_cons]
  by_cases e : j = i
  · subst e; simp
  · rw [nbeq_ne e, cond_false, if_neg e]
theorem get_put_same : ∀ (h : Heap) (i : Nat) (o : AObj), (h.put i o).get i = some o
  | [], i, o => by rw [heap_put_nil, get_cons, if_pos rfl]
  | (j, p) :: r, i, o => by
    rw [heap_put_cons]
    by_cases e : j = i
    · subst e; simp only [Nat.beq_refl, cond_true]; rw [get_cons, if_pos rfl]
    · simp only [nbeq_ne e, cond_false]
      rw [get_cons, if_neg e, get_put_same r i o]
theorem get_put_other {i k : Nat} (hik : i ≠ k) : ∀ (h : Heap) (o : AObj), (h.put i o).get k = h.get k
  | [], o => by rw [heap_put_nil, get_cons, if_neg hik]
  | (j, p) :: r, o => by
    rw [heap_put_cons]
    by_cases e : j = i
    · subst e
      simp only [Nat.beq_refl, cond_true]
      rw [get_cons, get_cons, if_neg hik, if_neg hik]
    · simp only [nbeq_ne e, cond_false]
      rw [get_cons, get_cons, get_put_other hik r o]
theorem get_rm (i j : Nat) : ∀ h : Heap, (h.rm j).get i = if j = i then none else h.get i
  | [] => by
    show none = _
    split <;> rfl
  | (k, p) :: r => by
    rw [heap_rm_cons]
    by_cases e : k = j
    · subst e
      simp only [Nat.beq_refl, cond_true]
      rw [get_rm i k r, get_cons]
      by_cases e2 : k = i
      · rw [if_pos e2, if_pos e2]
      · rw [if_neg e2, if_neg e2, if_neg e2]
    · simp only [nbeq_ne e, cond_false]
      rw [get_cons, get_cons, get_rm i j r]
      by_cases e2 : k = i
      · subst e2; rw [if_pos rfl, if_pos rfl, if_neg (fun e3 => e e3.symm)]
      · rw [if_neg e2, if_neg e2]
theorem get_filter (p : Nat → Bool) (i : Nat) : ∀ h : Heap, Heap.get (h.filter fun x => p x.1) i = if p i = true then h.get i else none
  | [] => by simp [heap_get_nil]
  | (k, o) :: r => by
    rw [List.filter_cons]
    by_cases e : p k = true
    · rw [if_pos e, get_cons, get_cons, get_filter p i r]
      by_cases e2 : k = i
      · subst e2; rw [if_pos rfl, if_pos e, if_pos rfl]
      · rw [if_neg e2, if_neg e2]
    · rw [if_neg e, get_filter p i r, get_cons]
      by_cases e2 : k = i
      · subst e2; rw [if_neg e, if_neg e]
      · rw [if_neg e2]
theorem get_append (g h : Heap) (i : Nat) : Heap.get (g ++ h) i = match g.get i with | some o => some o | none => h.get i := by
  induction g with
  | nil => rfl
  | cons x g ih =>
    obtain ⟨j, o⟩ := x
    rw [List.cons_append, get_cons, get_cons]
    by_cases e : j = i
    · rw [if_pos e, if_pos e]
    · rw [if_neg e, if_neg e, ih]
/-- what a block holds -/
def objR (E : Emb) (o : AObj) (k : Nat) (x : Option Obj) : Prop :=
  match o with
  | .cells cs ty none => x = some (.cells (concL E cs).toArray ty (0, 0))
  | .cells cs ty (some z) => ∃ ext : List Value, x = some (.cells (concL E cs ++ ext).toArray ty (0, 0)) ∧ cs.length + ext.length = k * z
  | .map es c => x = some (.map es c)
  | .iter m c => x = some (.mapIter (some (blk E m)) c #[] c)
def okO (E : Emb) : AObj → Bool
  | .cells cs _ _ => okL E cs
  | .map _ _ => true
  | .iter m _ => (E m).isSome
theorem objR_some {E : Emb} {o : AObj} {k : Nat} {x : Option Obj} (h : objR E o k x) : x.isSome = true := by
  unfold objR at h
  split at h
  · rw [h]; rfl
  · obtain ⟨ext, h, -⟩ := h; rw [h]; rfl
  · rw [h]; rfl
  · rw [h]; rfl
theorem objR_le {E E' : Emb} (hl : Le E E') {o : AObj} {k : Nat} {x : Option Obj} (ho : okO E o = true) (h : objR E o k x) : objR E' o k x ∧ okO E' o = true := by
  cases o with
  | cells cs ty z =>
    have := concL_le hl cs ho
    cases z with
    | none => exact ⟨by unfold objR at h ⊢; dsimp only at h ⊢; rw [this.1]; exact h, this.2⟩
    | some z => exact ⟨by unfold objR at h ⊢; dsimp only at h ⊢; rw [this.1]; exact h, this.2⟩
  | map es c => exact ⟨h, rfl⟩
  | iter m c =>
    have := hl.blk ho
    exact ⟨by unfold objR at h ⊢; dsimp only at h ⊢; rw [this.1]; exact h, this.2.2⟩
/-- the world holds the heap -/
structure HSim (E : Emb) (h : Heap) (w : World) : Prop where
  obj : ∀ i o, h.get i = some o → (E i).isSome = true ∧ okO E o = true ∧ objR E o (kap E i) w.heap[blk E i]?
  inj : ∀ i j o p, h.get i = some o → h.get j = some p → blk E i = blk E j → i = j
theorem HSim.lt {E : Emb} {h : Heap} {w : World} (hs : HSim E h w) {i : Nat} {o : AObj} (hi : h.get i = some o) : blk E i < w.heap.size := by
  have := objR_some (hs.obj i o hi).2.2
  rcases Nat.lt_or_ge (blk E i) w.heap.size with h | h
  · exact h
  · rw [Array.getElem?_eq_none h] at this; cases this
theorem HSim.sub {E : Emb} {h h' : Heap} {w : World} (hs : HSim E h w) (hh : ∀ i o, h'.get i = some o → h.get i = some o) : HSim E h' w :=
  ⟨fun i o hi => hs.obj i o (hh i o hi), fun i j o p hi hj => hs.inj i j o p (hh i o hi) (hh j p hj)⟩
def Fresh (E : Emb) (n : Nat) : Prop := ∀ i, n ≤ i → E i = none
theorem Fresh.lt {E : Emb} {n i : Nat} (h : Fresh E n) (hi : (E i).isSome = true) : i < n := by
  rcases Nat.lt_or_ge i n with h2 | h2
  · exact h2
  · rw [h i h2] at hi; cases hi
/-- what a piece of code does: names from n on are new; blocks that the heap does not name stay -/
structure Eff (n : Nat) (E : Emb) (h : Heap) (w : World) (n' : Nat) (E' : Emb) (h' : Heap) (w' : World) : Prop where
  nn : n ≤ n'
  ext : ∀ i, i < n → E' i = E i
  fresh : Fresh E' n'
  os : w'.os = w.os
  tape : w'.tape = w.tape
  output : w'.output = w.output
  size : w.heap.size ≤ w'.heap.size
  keep : ∀ b, b < w.heap.size → (∀ i o, h.get i = some o → blk E i ≠ b) → w'.heap[b]? = w.heap[b]?
  img : ∀ i o, h'.get i = some o → (∃ j p, h.get j = some p ∧ blk E j = blk E' i) ∨ w.heap.size ≤ blk E' i
  sim : HSim E' h' w'
theorem Eff.le {n n' : Nat} {E E' : Emb} {h h' : Heap} {w w' : World} (e : Eff n E h w n' E' h' w') (hf : Fresh E n) : Le E E' := fun i p hi => by
  rw [e.ext i (hf.lt (by rw [hi]; rfl)), hi]
theorem Eff.refl {n : Nat} {E : Emb} {h : Heap} {w : World} (hs : HSim E h w) (hf : Fresh E n) : Eff n E h w n E h w :=
  ⟨Nat.le_refl _, fun _ _ => rfl, hf, rfl, rfl, rfl, Nat.le_refl _, fun _ _ _ => rfl, fun i o hi => Or.inl ⟨i, o, hi, rfl⟩, hs⟩
theorem Eff.trans {n n1 n2 : Nat} {E E1 E2 : Emb} {h h1 h2 : Heap} {w w1 w2 : World} (a : Eff n E h w n1 E1 h1 w1) (b : Eff n1 E1 h1 w1 n2 E2 h2 w2) : Eff n E h w n2 E2 h2 w2 where
  nn := Nat.le_trans a.nn b.nn
  ext i hi := (b.ext i (Nat.lt_of_lt_of_le hi a.nn)).trans (a.ext i hi)
  fresh := b.fresh
  os := b.os.trans a.os
  tape := b.tape.trans a.tape
  output := b.output.trans a.output
  size := Nat.le_trans a.size b.size
  keep c hc hk := (b.keep c (Nat.lt_of_lt_of_le hc a.size) fun i o hi e => by
    rcases a.img i o hi with ⟨j, p, hj, he⟩ | hge
    · exact hk j p hj (he.trans e)
    · omega).trans (a.keep c hc hk)
  img i o hi := by
    rcases b.img i o hi with ⟨j, p, hj, he⟩ | hge
    · rcases a.img j p hj with ⟨k, q, hk, he2⟩ | hge2
      · exact Or.inl ⟨k, q, hk, he2.trans he⟩
      · exact Or.inr (he ▸ hge2)
    · exact Or.inr (Nat.le_trans a.size hge)
  sim := b.sim
theorem Eff.sub {n n1 : Nat} {E E1 : Emb} {h h1 h2 : Heap} {w w1 : World} (a : Eff n E h w n1 E1 h1 w1) (hh : ∀ i o, h2.get i = some o → h1.get i = some o) : Eff n E h w n1 E1 h2 w1 :=
  { a with img := fun i o hi => a.img i o (hh i o hi), sim := a.sim.sub hh }
theorem Eff.below {n n1 : Nat} {E E1 : Emb} {h1 : Heap} {w w1 : World} (a : Eff n E [] w n1 E1 h1 w1) : RowKit.Below w.heap.size w w1 :=
  ⟨a.os, a.tape, a.output, a.size, fun k hk => a.keep k hk (fun i o hi => by rw [heap_get_nil] at hi; cases hi)⟩
/-- what else the world holds stays -/
theorem Eff.frame {n n1 : Nat} {E E1 : Emb} {g h h1 : Heap} {w w1 : World} (a : Eff n E h w n1 E1 h1 w1) (hf : Le E E1) (hs : HSim E (g ++ h) w) (hd : ∀ i o p, g.get i = some o → h.get i ≠ some p) :
    Eff n E (g ++ h) w n1 E1 (g ++ h1) w1 := by
  have hh : ∀ i o, h.get i = some o → Heap.get (g ++ h) i = some o := fun i o hi => by
    rw [get_append]
    cases hg : g.get i with
    | none => exact hi
    | some p => exact absurd hi (hd i p o hg)
  have hgg : ∀ i o, g.get i = some o → Heap.get (g ++ h) i = some o := fun i o hi => by rw [get_append, hi]
  have hcase : ∀ (k : Heap) i o, Heap.get (g ++ k) i = some o → g.get i = some o ∨ (g.get i = none ∧ k.get i = some o) := fun k i o hi => by
    rw [get_append] at hi
    cases hg : g.get i with
    | none => rw [hg] at hi; exact Or.inr ⟨rfl, hi⟩
    | some p => rw [hg] at hi; exact Or.inl hi
  have hblk : ∀ i o, g.get i = some o → blk E1 i = blk E i ∧ kap E1 i = kap E i ∧ (E1 i).isSome = true := fun i o hi => hf.blk (hs.obj i o (hgg i o hi)).1
  have hst : ∀ i o, g.get i = some o → w1.heap[blk E i]? = w.heap[blk E i]? := fun i o hi => a.keep _ (hs.lt (hgg i o hi)) fun j p hj e => by
    have := hs.inj j i p o (hh j p hj) (hgg i o hi) e
    subst this
    exact hd j o p hi hj
  refine { a with keep := fun b hb hk => a.keep b hb fun i o hi => hk i o (hh i o hi), img := fun i o hi => ?_, sim := ⟨fun i o hi => ?_, fun i j o p hi hj e => ?_⟩ }
  · rcases hcase h1 i o hi with hg | ⟨-, h2⟩
    · exact Or.inl ⟨i, o, hgg i o hg, (hblk i o hg).1.symm⟩
    · rcases a.img i o h2 with ⟨j, p, hj, he⟩ | hge
      · exact Or.inl ⟨j, p, hh j p hj, he⟩
      · exact Or.inr hge
  · rcases hcase h1 i o hi with hg | ⟨-, h2⟩
    · have h3 := hs.obj i o (hgg i o hg)
      have h4 := objR_le hf h3.2.1 h3.2.2
      have h5 := hblk i o hg
      refine ⟨h5.2.2, h4.2, ?_⟩
      rw [h5.1, h5.2.1, hst i o hg]
      exact h4.1
    · exact a.sim.obj i o h2
  · rcases hcase h1 i o hi with hg | ⟨hgn, h2⟩ <;> rcases hcase h1 j p hj with hg2 | ⟨hgn2, h3⟩
    · exact hs.inj i j o p (hgg i o hg) (hgg j p hg2) (by rw [← (hblk i o hg).1, ← (hblk j p hg2).1]; exact e)
    · exfalso
      rcases a.img j p h3 with ⟨k, q, hk, he⟩ | hge
      · have := hs.inj k i q o (hh k q hk) (hgg i o hg) (by rw [he, ← e, (hblk i o hg).1])
        subst this
        exact hd k o q hg hk
      · have := hs.lt (hgg i o hg)
        rw [← e, (hblk i o hg).1] at hge
        omega
    · exfalso
      rcases a.img i o h2 with ⟨k, q, hk, he⟩ | hge
      · have := hs.inj k j q p (hh k q hk) (hgg j p hg2) (by rw [he, e, (hblk j p hg2).1])
        subst this
        exact hd k p q hg2 hk
      · have := hs.lt (hgg j p hg2)
        rw [e, (hblk j p hg2).1] at hge
        omega
    · exact a.sim.inj i j o p h2 h3 e
end Go.Proofs.YtokbandookjdjaaGreat.Ev
