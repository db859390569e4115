/- The plain law of the reference's admission. -/
import Derived.Test.YtleiiedacachjaaTLast
import Derived.Test.YtleiiedacachjaaKRefE
namespace Go.Proofs.Ytleiiedacachjaa
/-- one step of the reference: q into the list of those that stand -/
def stepA (q : CodE) : Bool → List CodE → List CodE
  | dn, [] => if dn then [] else [q]
  | dn, p :: r => if p.x.cast.id = q.x.cast.id then stepA q dn r else if dn = false ∧ q.x.cast.id < p.x.cast.id then q :: p :: stepA q true r else p :: stepA q dn r
def IdLt (p q : CodE) : Prop := p.x.cast.id < q.x.cast.id
theorem step_mem {q : CodE} : ∀ (l : List CodE) (dn : Bool) (p : CodE), p ∈ stepA q dn l ↔ (p ∈ l ∧ p.x.cast.id ≠ q.x.cast.id) ∨ (dn = false ∧ p = q)
  | [], dn, p => by cases dn <;> simp [stepA]
  | z :: r, dn, p => by
    unfold stepA
    by_cases h1 : z.x.cast.id = q.x.cast.id
    · rw [if_pos h1, step_mem r dn p, List.mem_cons]
      constructor
      · rintro (⟨a, b⟩ | c)
        · exact Or.inl ⟨Or.inr a, b⟩
        · exact Or.inr c
      · rintro (⟨rfl | a, b⟩ | c)
        · exact absurd h1 b
        · exact Or.inl ⟨a, b⟩
        · exact Or.inr c
    · rw [if_neg h1]
      by_cases h2 : dn = false ∧ q.x.cast.id < z.x.cast.id
      · rw [if_pos h2, List.mem_cons, List.mem_cons, step_mem r true p, List.mem_cons]
        constructor
        · rintro (rfl | rfl | ⟨a, b⟩ | ⟨a, _⟩)
          · exact Or.inr ⟨h2.1, rfl⟩
          · exact Or.inl ⟨Or.inl rfl, h1⟩
          · exact Or.inl ⟨Or.inr a, b⟩
          · cases a
        · rintro (⟨rfl | a, b⟩ | ⟨_, rfl⟩)
          · exact Or.inr (Or.inl rfl)
          · exact Or.inr (Or.inr (Or.inl ⟨a, b⟩))
          · exact Or.inl rfl
      · rw [if_neg h2, List.mem_cons, step_mem r dn p, List.mem_cons]
        constructor
        · rintro (rfl | ⟨a, b⟩ | c)
          · exact Or.inl ⟨Or.inl rfl, h1⟩
          · exact Or.inl ⟨Or.inr a, b⟩
          · exact Or.inr c
        · rintro (⟨rfl | a, b⟩ | c)
          · exact Or.inl rfl
          · exact Or.inr (Or.inl ⟨a, b⟩)
          · exact Or.inr (Or.inr c)
/-- where q still waits, all that is left may be below it or not; where it has been put, all that is left is above it -/
theorem step_sorted {q : CodE} : ∀ (l : List CodE) (dn : Bool), l.Pairwise IdLt → (stepA q dn l).Pairwise IdLt
  | [], dn, _ => by cases dn <;> simp [stepA]
  | z :: r, dn, h => by
    obtain ⟨h0, hr⟩ := List.pairwise_cons.1 h
    unfold stepA
    by_cases h1 : z.x.cast.id = q.x.cast.id
    · rw [if_pos h1]; exact step_sorted r dn hr
    · rw [if_neg h1]
      by_cases h2 : dn = false ∧ q.x.cast.id < z.x.cast.id
      · rw [if_pos h2]
        refine List.pairwise_cons.2 ⟨fun p hp => ?_, List.pairwise_cons.2 ⟨fun p hp => ?_, step_sorted r true hr⟩⟩
        · rcases List.mem_cons.1 hp with rfl | hp
          · exact h2.2
          · rcases (step_mem r true p).1 hp with ⟨a, _⟩ | ⟨a, _⟩
            · exact Int.lt_trans h2.2 (h0 p a)
            · cases a
        · rcases (step_mem r true p).1 hp with ⟨a, _⟩ | ⟨a, _⟩
          · exact h0 p a
          · cases a
      · rw [if_neg h2]
        refine List.pairwise_cons.2 ⟨fun p hp => ?_, step_sorted r dn hr⟩
        rcases (step_mem r dn p).1 hp with ⟨a, _⟩ | ⟨a, rfl⟩
        · exact h0 p a
        · unfold IdLt
          have : ¬ p.x.cast.id < z.x.cast.id := fun hc => h2 ⟨a, hc⟩
          omega
/-- what stands behind the first k news of the order -/
structure StandA (h : Int) (o : List CodE) (k : Nat) (out : List CodE) : Prop where
  sorted : out.Pairwise IdLt
  mem : ∀ p, p ∈ out ↔ ∃ m, m < k ∧ o[m]? = some p ∧ CountsN h p.x ∧ p.x.kind ≠ 2 ∧ NoHit h p.x.cast.id o (m + 1) k
theorem stand_zero (h : Int) (o : List CodE) : StandA h o 0 [] := ⟨List.Pairwise.nil, fun p => ⟨fun hp => (by cases hp), fun ⟨m, hm, _⟩ => (by omega)⟩⟩
theorem stand_skip {h : Int} {o out : List CodE} {k : Nat} {q : CodE} (hS : StandA h o k out) (hq : o[k]? = some q) (hc : ¬ CountsN h q.x) : StandA h o (k + 1) out :=
  ⟨hS.sorted, fun p => by
    rw [hS.mem]
    constructor
    · rintro ⟨m, h1, h2, h3, h4, h5⟩
      exact ⟨m, by omega, h2, h3, h4, noHit_step h5 hq (fun hh => hc hh.2)⟩
    · rintro ⟨m, h1, h2, h3, h4, h5⟩
      by_cases e : m = k
      · subst e; rw [hq] at h2; cases h2; exact absurd h3 hc
      · exact ⟨m, by omega, h2, h3, h4, fun j z a b c => h5 j z a (by omega) c⟩⟩
theorem stand_step {h : Int} {o out : List CodE} {k : Nat} {q : CodE} (hS : StandA h o k out) (hq : o[k]? = some q) (hc : CountsN h q.x) : StandA h o (k + 1) (stepA q (decide (q.x.kind = 2)) out) :=
  ⟨step_sorted _ _ hS.sorted, fun p => by
    rw [step_mem, hS.mem, decide_eq_false_iff_not]
    constructor
    · rintro (⟨⟨m, h1, h2, h3, h4, h5⟩, h6⟩ | ⟨h1, rfl⟩)
      · exact ⟨m, by omega, h2, h3, h4, noHit_step h5 hq (fun hh => h6 hh.1.symm)⟩
      · exact ⟨k, by omega, hq, hc, h1, fun j z a b _ => by omega⟩
    · rintro ⟨m, h1, h2, h3, h4, h5⟩
      by_cases e : m = k
      · subst e; rw [hq] at h2; cases h2; exact Or.inr ⟨h4, rfl⟩
      · exact Or.inl ⟨⟨m, by omega, h2, h3, h4, fun j z a b c => h5 j z a (by omega) c⟩, fun e2 => h5 k q (by omega) (by omega) hq ⟨e2.symm, hc⟩⟩⟩
theorem last_ex (h t : Int) (o : List CodE) : ∀ k, k ≤ o.length → ∃ z, LastIs h t o k z
  | 0, _ => ⟨-1, Or.inl ⟨rfl, fun j q _ h2 => by omega⟩⟩
  | k + 1, hk => by
    obtain ⟨z, hz⟩ := last_ex h t o k (by omega)
    obtain ⟨q, hq⟩ : ∃ q, o[k]? = some q := ⟨_, List.getElem?_eq_getElem (by omega)⟩
    by_cases hh : HitL h t q.x
    · exact ⟨_, last_hit hq hh⟩
    · exact ⟨z, last_skip hz hq hh⟩
theorem strict_ext : ∀ (a b : List NewsV), a.Pairwise (fun x y => x.cast.id < y.cast.id) → b.Pairwise (fun x y => x.cast.id < y.cast.id) → (∀ x, x ∈ a ↔ x ∈ b) → a = b
  | [], [], _, _, _ => rfl
  | [], y :: b, _, _, h => by have := (h y).2 (List.mem_cons_self ..); cases this
  | x :: a, [], _, _, h => by have := (h x).1 (List.mem_cons_self ..); cases this
  | x :: a, y :: b, ha, hb, h => by
    obtain ⟨a0, ar⟩ := List.pairwise_cons.1 ha
    obtain ⟨b0, br⟩ := List.pairwise_cons.1 hb
    have hxy : x = y := by
      rcases List.mem_cons.1 ((h x).1 (List.mem_cons_self ..)) with e | h1
      · exact e
      · rcases List.mem_cons.1 ((h y).2 (List.mem_cons_self ..)) with e | h2
        · exact e.symm
        · have := a0 y h2; have := b0 x h1; omega
    subst hxy
    refine congrArg (x :: ·) (strict_ext a b ar br (fun z => ⟨fun hz => ?_, fun hz => ?_⟩))
    · rcases List.mem_cons.1 ((h z).1 (List.mem_cons_of_mem _ hz)) with rfl | h1
      · have := a0 z hz; omega
      · exact h1
    · rcases List.mem_cons.1 ((h z).2 (List.mem_cons_of_mem _ hz)) with rfl | h1
      · have := b0 z hz; omega
      · exact h1
theorem stand_big {h : Int} {xs big : List NewsV} {o out : List CodE} (hS : StandA h o o.length out) (hB : IsBig h xs big) (hp : ∀ y, y ∈ xs ↔ ∃ q ∈ o, q.x = y) (hI : ∀ y ∈ xs, NewsI y) (hK : o.Pairwise KeyLe) : out.map (·.x) = big.filter fun x => decide (x.kind ≠ 2) := by
  refine strict_ext _ _ ?_ (hB.sorted.filter _) (fun x => ?_)
  · rw [List.pairwise_map]
    exact hS.sorted
  · rw [List.mem_map, List.mem_filter]
    constructor
    · rintro ⟨q, hq, rfl⟩
      obtain ⟨m, h1, h2, h3, h4, h5⟩ := (hS.mem q).1 hq
      have hx : q.x ∈ xs := (hp _).2 ⟨q, List.mem_of_getElem? h2, rfl⟩
      obtain ⟨x', hx', e⟩ := hB.all q.x hx h3
      have := hit_last hB hx' hp hI hK h2 ⟨e.symm, h3⟩ (by rw [e]; exact h5)
      rw [this]
      exact ⟨hx', by rw [← this]; simpa using h4⟩
    · rintro ⟨hx, hk⟩
      obtain ⟨z, hz⟩ := last_ex h x.cast.id o o.length (Nat.le_refl _)
      rcases hz with ⟨_, hn⟩ | ⟨m, q, _, h2, h3, h4, hn⟩
      · exact absurd hn (hit_exists hB hx hp)
      · have e := hit_last hB hx hp hI hK h3 h4 hn
        exact ⟨q, (hS.mem q).2 ⟨m, h2, h3, h4.2, by rw [e]; simpa using hk, by rw [e]; exact hn⟩, e⟩
theorem stand_keep {h : Int} {xs big : List NewsV} {o out : List CodE} (hS : StandA h o o.length out) (hB : IsBig h xs big) (hp : ∀ y, y ∈ xs ↔ ∃ q ∈ o, q.x = y) (hI : ∀ y ∈ xs, NewsI y) (hK : o.Pairwise KeyLe) : (out.take (min out.length 32)).map (·.x.cast) = (keepN big).map (·.cast) := by
  have h1 := stand_big hS hB hp hI hK
  unfold keepN
  rw [← h1, ← List.map_take, List.map_map, ← List.take_take, List.take_of_length_le (by rw [List.length_take]; omega)]
  rfl
theorem stepA_done (q : CodE) (out : List CodE) : ∀ dn, stepA q dn (out.drop out.length) = if dn then [] else [q] := fun dn => by rw [List.drop_length]; rfl
end Go.Proofs.Ytleiiedacachjaa
