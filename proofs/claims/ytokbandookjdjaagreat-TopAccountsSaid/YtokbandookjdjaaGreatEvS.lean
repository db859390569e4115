/- A symbolic evaluator of the model's code: what abstract values and heaps stand for. -/
import Derived.Test.YtokbandookjdjaaGreatEvC
namespace Go.Proofs.YtokbandookjdjaaGreat.Ev
open Go
/-- where the named blocks lie, and the capacity of those that an append made -/
abbrev Emb := Nat → Option (Nat × Nat)
def blk (E : Emb) (i : Nat) : Nat := match E i with | some p => p.1 | none => 0
def kap (E : Emb) (i : Nat) : Nat := match E i with | some p => p.2 | none => 0
mutual
def conc (E : Emb) : AV → Value
  | .lit v => v
  | .ptr i off => .pointer (some ⟨blk E i, off, none⟩)
  | .sl i off n c => .slice (some ⟨blk E i, off, none⟩) n (match c with | some c => c | none => kap E i)
  | .mp i => .map (some (blk E i))
  | .fn f cs => .func (.func f) #[] (concL E cs).toArray
  | .agg cs => .agg (concL E cs).toArray
  | .tup cs => .tuple (concL E cs).toArray
  | .ifc t v => .iface t (conc E v)
def concL (E : Emb) : List AV → List Value
  | [] => []
  | x :: r => conc E x :: concL E r
end
mutual
def okA (E : Emb) : AV → Bool
  | .lit _ => true
  | .ptr i _ => (E i).isSome
  | .sl i _ _ _ => (E i).isSome
  | .mp i => (E i).isSome
  | .fn _ cs => okL E cs
  | .agg cs => okL E cs
  | .tup cs => okL E cs
  | .ifc _ v => okA E v
def okL (E : Emb) : List AV → Bool
  | [] => true
  | x :: r => okA E x && okL E r
end
theorem concL_map (E : Emb) : ∀ l : List AV, concL E l = l.map (conc E)
  | [] => rfl
  | x :: r => by rw [concL, concL_map E r, List.map_cons]
theorem concL_length (E : Emb) (l : List AV) : (concL E l).length = l.length := by rw [concL_map, List.length_map]
theorem concL_append (E : Emb) (l m : List AV) : concL E (l ++ m) = concL E l ++ concL E m := by rw [concL_map, concL_map, concL_map, List.map_append]
theorem concL_take (E : Emb) (l : List AV) (n : Nat) : concL E (l.take n) = (concL E l).take n := by rw [concL_map, concL_map, List.map_take]
theorem concL_drop (E : Emb) (l : List AV) (n : Nat) : concL E (l.drop n) = (concL E l).drop n := by rw [concL_map, concL_map, List.map_drop]
theorem concL_get (E : Emb) (l : List AV) (n : Nat) : (concL E l)[n]? = (l[n]?).map (conc E) := by rw [concL_map, List.getElem?_map]
theorem concL_lit (E : Emb) (l : List Value) : concL E (l.map AV.lit) = l := by
  rw [concL_map, List.map_map]
  conv => rhs; rw [← List.map_id l]
  rfl
theorem okL_iff (E : Emb) : ∀ l : List AV, okL E l = true ↔ ∀ x ∈ l, okA E x = true
  | [] => by simp [okL]
  | x :: r => by rw [okL, Bool.and_eq_true, okL_iff E r]; simp
theorem okL_append {E : Emb} {l m : List AV} (h1 : okL E l = true) (h2 : okL E m = true) : okL E (l ++ m) = true := by
  rw [okL_iff] at h1 h2 ⊢
  intro x hx
  rcases List.mem_append.1 hx with h | h
  · exact h1 x h
  · exact h2 x h
theorem okL_take {E : Emb} {l : List AV} (h : okL E l = true) (n : Nat) : okL E (l.take n) = true := by
  rw [okL_iff] at h ⊢
  exact fun x hx => h x (List.mem_of_mem_take hx)
theorem okL_drop {E : Emb} {l : List AV} (h : okL E l = true) (n : Nat) : okL E (l.drop n) = true := by
  rw [okL_iff] at h ⊢
  exact fun x hx => h x (List.mem_of_mem_drop hx)
theorem okL_get {E : Emb} {l : List AV} (h : okL E l = true) {n : Nat} {v : AV} (hv : l[n]? = some v) : okA E v = true := (okL_iff E l).1 h v (List.mem_of_getElem? hv)
theorem okL_lit (E : Emb) (l : List Value) : okL E (l.map AV.lit) = true := by
  rw [okL_iff]
  intro x hx
  obtain ⟨y, -, rfl⟩ := List.mem_map.1 hx
  rfl
mutual
theorem lits_conc (E : Emb) : ∀ (v : AV) (x : Value), lits v = some x → conc E v = x ∧ okA E v = true
  | .lit v, x, h => by rw [lits] at h; cases h; exact ⟨rfl, rfl⟩
  | .ptr _ _, x, h => by rw [lits] at h; cases h; all_goals (intros; contradiction)
  | .sl _ _ _ _, x, h => by rw [lits] at h; cases h; all_goals (intros; contradiction)
  | .mp _, x, h => by rw [lits] at h; cases h; all_goals (intros; contradiction)
  | .fn f cs, x, h => by
    rw [lits] at h
    split at h
    · rename_i l hl
      cases h
      have := litsL_conc E cs l hl
      exact ⟨by rw [conc, this.1], by rw [okA, this.2]⟩
    · cases h
  | .agg cs, x, h => by
    rw [lits] at h
    split at h
    · rename_i l hl
      cases h
      have := litsL_conc E cs l hl
      exact ⟨by rw [conc, this.1], by rw [okA, this.2]⟩
    · cases h
  | .tup cs, x, h => by
    rw [lits] at h
    split at h
    · rename_i l hl
      cases h
      have := litsL_conc E cs l hl
      exact ⟨by rw [conc, this.1], by rw [okA, this.2]⟩
    · cases h
  | .ifc t v, x, h => by
    rw [lits] at h
    split at h
    · rename_i y hy
      cases h
      have := lits_conc E v y hy
      exact ⟨by simp only [conc, this.1], by rw [okA, this.2]⟩
    · cases h
theorem litsL_conc (E : Emb) : ∀ (l : List AV) (xs : List Value), litsL l = some xs → concL E l = xs ∧ okL E l = true
  | [], xs, h => by rw [litsL] at h; cases h; exact ⟨rfl, rfl⟩
  | v :: r, xs, h => by
    rw [litsL] at h
    split at h
    · rename_i x l hx hl
      cases h
      have h1 := lits_conc E v x hx
      have h2 := litsL_conc E r l hl
      exact ⟨by rw [concL, h1.1, h2.1], by rw [okL, h1.2, h2.2]; rfl⟩
    · cases h
end
/-- E' knows all that E knows -/
def Le (E E' : Emb) : Prop := ∀ i p, E i = some p → E' i = some p
theorem Le.refl (E : Emb) : Le E E := fun _ _ h => h
theorem Le.trans {E E' E'' : Emb} (h : Le E E') (h' : Le E' E'') : Le E E'' := fun i p hp => h' i p (h i p hp)
theorem Le.blk {E E' : Emb} (h : Le E E') {i : Nat} (hi : (E i).isSome = true) : blk E' i = blk E i ∧ kap E' i = kap E i ∧ (E' i).isSome = true := by
  obtain ⟨p, hp⟩ := Option.isSome_iff_exists.1 hi
  unfold Ev.blk Ev.kap
  rw [hp, h i p hp]
  exact ⟨rfl, rfl, rfl⟩
mutual
theorem conc_le {E E' : Emb} (h : Le E E') : ∀ v : AV, okA E v = true → conc E' v = conc E v ∧ okA E' v = true
  | .lit _, _ => ⟨rfl, rfl⟩
  | .ptr i off, hv => by
    rw [okA] at hv
    have := h.blk hv
    exact ⟨by simp only [conc, this.1], by rw [okA, this.2.2]⟩
  | .sl i off n c, hv => by
    rw [okA] at hv
    have := h.blk hv
    exact ⟨by simp only [conc, this.1, this.2.1], by rw [okA, this.2.2]⟩
  | .mp i, hv => by
    rw [okA] at hv
    have := h.blk hv
    exact ⟨by simp only [conc, this.1], by rw [okA, this.2.2]⟩
  | .fn f cs, hv => by
    rw [okA] at hv
    have := concL_le h cs hv
    exact ⟨by simp only [conc, this.1], by rw [okA, this.2]⟩
  | .agg cs, hv => by
    rw [okA] at hv
    have := concL_le h cs hv
    exact ⟨by simp only [conc, this.1], by rw [okA, this.2]⟩
  | .tup cs, hv => by
    rw [okA] at hv
    have := concL_le h cs hv
    exact ⟨by simp only [conc, this.1], by rw [okA, this.2]⟩
  | .ifc t v, hv => by
    rw [okA] at hv
    have := conc_le h v hv
    exact ⟨by simp only [conc, this.1], by rw [okA, this.2]⟩
theorem concL_le {E E' : Emb} (h : Le E E') : ∀ l : List AV, okL E l = true → concL E' l = concL E l ∧ okL E' l = true
  | [], _ => ⟨rfl, rfl⟩
  | v :: r, hv => by
    rw [okL, Bool.and_eq_true] at hv
    have h1 := conc_le h v hv.1
    have h2 := concL_le h r hv.2
    exact ⟨by rw [concL, concL, h1.1, h2.1], by rw [okL, h1.2, h2.2]; rfl⟩
end
theorem pureRun_ok {α : Type} {P : Program} : ∀ {s : Sem α} {a : α}, pureRun P s = some a → ∀ w, s.run P w = .ok a w
  | .pure a, _, h, w => by rw [pureRun] at h; cases h; rfl
  | .program k, a, h, w => by rw [pureRun] at h; exact pureRun_ok (s := k P) h w
  | .mark _ k, a, h, w => by rw [pureRun] at h; exact pureRun_ok (s := k) h w
  | .choose q k, a, h, w => by
    rw [pureRun] at h
    cases hq : q.forced with
    | true => rw [hq] at h; simp only [Sem.run, hq, if_true]; exact pureRun_ok (s := k 0) h w
    | false => rw [hq] at h; cases h
/-- the cells of a value -/
theorem cells_conc (E : Emb) (v : AV) : (conc E v).cells = (concL E (cellsA v)).toArray ∧ (okA E v = true → okL E (cellsA v) = true) := by
  cases v with
  | lit x =>
    cases x <;> simp [conc, cellsA, Value.cells, concL, okA, okL]
    rename_i cs
    have := concL_lit E cs.toList
    exact ⟨by rw [this], okL_lit E cs.toList⟩
  | agg cs => exact ⟨rfl, fun h => h⟩
  | _ => simp [conc, cellsA, Value.cells, concL, okA, okL]
theorem oneA_conc (E : Emb) {v : AV} (h : oneA v = true) : (∀ cs, conc E v ≠ .agg cs) ∧ (∀ cs, conc E v ≠ .tuple cs) := by
  cases v with
  | lit x => cases x <;> simp_all [oneA, conc]
  | _ => simp_all [oneA, conc]
end Go.Proofs.YtokbandookjdjaaGreat.Ev
