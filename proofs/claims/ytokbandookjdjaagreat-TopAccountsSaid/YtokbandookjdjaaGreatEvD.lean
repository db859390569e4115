/- A symbolic evaluator of the model's code: regions that draw their order: plain facts. -/
import Derived.Test.YtokbandookjdjaaGreatEvK
namespace Go.Proofs.YtokbandookjdjaaGreat.Ev
open Go
theorem distinctN_nodup : ∀ {l : List Nat}, distinctN l = true → l.Nodup
  | [], _ => List.nodup_nil
  | a :: r, h => by
    rw [distinctN, Bool.and_eq_true] at h
    rw [List.nodup_cons]
    refine ⟨fun hm => ?_, distinctN_nodup h.2⟩
    have h1 := h.1
    rw [Bool.not_eq_true'] at h1
    have := List.any_eq_false.1 h1 a hm
    simp at this
theorem maskOf_bit (acc : List Nat) (i : Nat) : ∀ (es : List Edge) (s : Nat), (es.foldl (fun s e => bif Region.binds .any e then s ||| (2 ^ e.on ||| acc.getD e.on 0) else s) s).testBit i = true →
    s.testBit i = true ∨ ∃ e ∈ es, Region.binds .any e = true ∧ (e.on = i ∨ (acc.getD e.on 0).testBit i = true)
  | [], s, h => Or.inl h
  | e :: es, s, h => by
    rw [List.foldl_cons] at h
    rcases maskOf_bit acc i es _ h with h1 | ⟨e', hm, h2⟩
    · cases hb : Region.binds .any e with
      | false => rw [hb] at h1; exact Or.inl h1
      | true =>
        rw [hb] at h1
        simp only [cond_true, Nat.testBit_or, Bool.or_eq_true, Nat.testBit_two_pow, decide_eq_true_eq] at h1
        rcases h1 with h1 | h1
        · exact Or.inl h1
        · exact Or.inr ⟨e, by simp, hb, h1⟩
    · exact Or.inr ⟨e', by simp [hm], h2⟩
theorem snoc_ind {α : Type} {motive : List α → Prop} (l : List α) (h0 : motive []) (h1 : ∀ (l : List α) (a : α), motive l → motive (l ++ [a])) : motive l := by
  have h : ∀ r : List α, motive r.reverse := fun r => by
    induction r with
    | nil => exact h0
    | cons a r ih => rw [List.reverse_cons]; exact h1 _ _ ih
  have := h l.reverse
  rw [List.reverse_reverse] at this
  exact this
theorem masks_snoc (l : List Oper) (o : Oper) : masks (l ++ [o]) = masks l ++ [maskOf (masks l) o] := by
  unfold masks
  rw [List.foldl_append]
  rfl
theorem masks_length (l : List Oper) : (masks l).length = l.length := by
  induction l using snoc_ind with
  | h0 => rfl
  | h1 l o ih => rw [masks_snoc, List.length_append, List.length_append, ih]; rfl
theorem bm_pre {i : Nat} (l : List Oper) : ∀ {j : Nat}, bm (masks l) i j = true → ∃ o, l[j]? = some o ∧ ∃ e ∈ o.after, Region.binds .any e = true ∧ (e.on = i ∨ bm (masks l) i e.on = true) := by
  induction l using snoc_ind with
  | h0 =>
    intro j h
    unfold bm masks at h
    simp at h
  | h1 l o ih =>
    intro j h
    have lift : ∀ k, bm (masks l) i k = true → bm (masks (l ++ [o])) i k = true := fun k hk => by
      have hlt : k < (masks l).length := by
        rcases Nat.lt_or_ge k (masks l).length with h1 | h1
        · exact h1
        · unfold bm at hk
          rw [List.getD_eq_getElem?_getD, List.getElem?_eq_none h1] at hk
          simp at hk
      unfold bm at hk ⊢
      rw [masks_snoc, List.getD_eq_getElem?_getD, List.getElem?_append_left hlt, ← List.getD_eq_getElem?_getD]
      exact hk
    unfold bm at h
    rw [masks_snoc, List.getD_eq_getElem?_getD, List.getElem?_append] at h
    split at h
    · next hlt =>
      rw [← List.getD_eq_getElem?_getD] at h
      obtain ⟨o', ho', e, he, hb, hc⟩ := ih (j := j) h
      refine ⟨o', ?_, e, he, hb, hc.imp id (lift _)⟩
      rw [List.getElem?_append_left (by rw [masks_length] at hlt; exact hlt)]
      exact ho'
    · next hge =>
      rw [masks_length] at hge h
      cases hd : j - l.length with
      | succ k => rw [hd] at h; simp at h
      | zero =>
        rw [hd] at h
        simp only [List.getElem?_cons_zero, Option.getD_some] at h
        have hj : j = l.length := by omega
        rcases maskOf_bit (masks l) i o.after.toList 0 h with h1 | ⟨e, he, hb, hc⟩
        · simp at h1
        · refine ⟨o, by rw [hj]; simp, e, Array.mem_toList_iff.1 he, hb, hc.imp id fun h2 => lift _ h2⟩
/-- edges lead backwards -/
def Back (l : List Oper) : Prop := ∀ (j : Nat) (o : Oper), l[j]? = some o → ∀ e ∈ o.after, Region.binds .any e = true → e.on < j
theorem bm_lt {l : List Oper} (hb : Back l) {i : Nat} : ∀ (j : Nat), bm (masks l) i j = true → i < j := fun j => by
  induction j using Nat.strongRecOn with
  | _ j ih =>
    intro h
    obtain ⟨o, ho, e, he, hbi, hc⟩ := bm_pre l h
    have h1 := hb j o ho e he hbi
    rcases hc with rfl | hc
    · exact h1
    · exact Nat.lt_trans (ih _ h1 hc) h1
/-- whoever is listed has those ahead of it listed -/
def Closed (l : List Oper) (L : Nat → Bool) : Prop := ∀ (j : Nat) (o : Oper), l[j]? = some o → L j = true → ∀ e ∈ o.after, Region.binds .any e = true → L e.on = true
theorem bm_listed {l : List Oper} {L : Nat → Bool} (hb : Back l) (hc : Closed l L) {i : Nat} : ∀ (j : Nat), L j = true → bm (masks l) i j = true → L i = true := fun j => by
  induction j using Nat.strongRecOn with
  | _ j ih =>
    intro hj h
    obtain ⟨o, ho, e, he, hbi, hcc⟩ := bm_pre l h
    have h1 := hc j o ho hj e he hbi
    rcases hcc with rfl | hcc
    · exact h1
    · exact ih _ (hb j o ho e he hbi) h1 hcc
theorem bm_ready {l : List Oper} {L : Nat → Bool} (hb : Back l) (hc : Closed l L) {i j : Nat} {o : Oper} (ho : l[j]? = some o) (hr : ∀ e ∈ o.after, Region.binds .any e = true → L e.on = true) (h : bm (masks l) i j = true) : L i = true := by
  obtain ⟨o', ho', e, he, hbi, hcc⟩ := bm_pre l h
  rw [ho] at ho'
  cases ho'
  have h1 := hr e he hbi
  rcases hcc with rfl | hcc
  · exact h1
  · exact bm_listed hb hc _ h1 hcc
section
variable {P : Program} {X : Nat → Option Ext} {call : Answer} {ops : Array Oper} {M : List Nat}
/-- what one step of the run does -/
inductive StepR (P : Program) (X : Nat → Option Ext) (call : Answer) (ops : Array Oper) (M : List Nat) (o : Oper) (i : Nat) (st : St) : RK → St → Prop where
  | skip : wantedA ops st.aa o = false → StepR P X call ops M o i st .skip ⟨putA st.aa o.dst (.lit undef), st.nid, st.news, st.louds, st.s⟩
  | new (v : AV) (sx : Nat) (ob : AObj) : wantedA ops st.aa o = true → isNewOp o.op = true → evOp P ⟨st.nid, []⟩ st.aa o = some (v, ⟨sx, [(st.nid, ob)]⟩) → StepR P X call ops M o i st (.new v st.nid ob) ⟨putA st.aa o.dst v, st.nid + 1, st.news ++ [(i, st.nid, ob)], st.louds, st.s⟩
  | loud (v : AV) (s1 : AS) : wantedA ops st.aa o = true → isNewOp o.op = false → isLoud o.op = true → evOper P X call o st.aa ⟨st.s.next, freeN M st.news st.louds i ++ st.s.heap⟩ = .ok (v, s1) → StepR P X call ops M o i st (.loud v) ⟨putA st.aa o.dst v, st.nid, st.news, st.louds ++ [(i, st.s)], s1⟩
  | quiet (v : AV) : wantedA ops st.aa o = true → isNewOp o.op = false → isLoud o.op = false → StepR P X call ops M o i st (.quiet v) ⟨putA st.aa o.dst v, st.nid, st.news, st.louds, st.s⟩
theorem stepD_step {o : Oper} {i : Nat} {st st' : St} {k : RK} (h : stepD P X call ops M o i st = .ok (k, st')) : StepR P X call ops M o i st k st' := by
  unfold stepD at h
  cases hw : wantedA ops st.aa o with
  | false => rw [hw] at h; cases h; exact .skip hw
  | true =>
    rw [hw] at h
    simp only [cond_true] at h
    cases hn : isNewOp o.op with
    | true =>
      rw [hn] at h
      simp only [cond_true] at h
      split at h
      · next v s1 he =>
        split at h
        · next id ob hh =>
          cases hb : Nat.beq id st.nid with
          | false => rw [hb] at h; cases h
          | true =>
            rw [hb] at h
            cases h
            have e1 := Nat.eq_of_beq_eq_true hb
            subst e1
            obtain ⟨sx, sh⟩ := s1
            dsimp only at hh
            subst hh
            exact .new v sx ob hw hn he
        · cases h
      · cases h
    | false =>
      rw [hn] at h
      simp only [cond_false] at h
      cases hl : isLoud o.op with
      | true =>
        rw [hl] at h
        simp only [cond_true] at h
        split at h
        · next v s1 he => cases h; exact .loud v s1 hw hn hl he
        · cases h
      | false =>
        rw [hl] at h
        simp only [cond_false] at h
        split at h
        · next v _ he => cases h; exact .quiet v hw hn hl
        · cases h
theorem StepR.aa {o : Oper} {i : Nat} {st st' : St} {k : RK} (h : StepR P X call ops M o i st k st') : st'.aa = putA st.aa o.dst k.val := by cases h <;> rfl
/-- the states of a run -/
theorem runD_trace : ∀ (l : List Oper) (i : Nat) (st : St) (rs : Recs) (stF : St), runD P X call ops M l i st = .ok (rs, stF) →
    ∃ seq : Nat → St, seq 0 = st ∧ seq l.length = stF ∧ rs.length = l.length ∧ ∀ p o, l[p]? = some o → ∃ k, rs[p]? = some (k, (seq p).aa) ∧ StepR P X call ops M o (i + p) (seq p) k (seq (p + 1))
  | [], i, st, rs, stF, h => by
    cases h
    exact ⟨fun _ => st, rfl, rfl, rfl, fun p o ho => by simp at ho⟩
  | o :: l, i, st, rs, stF, h => by
    have h : (match stepD P X call ops M o i st with | .ok (k, st') => (match runD P X call ops M l (i + 1) st' with | .ok (rs, stF) => (.ok ((k, st.aa) :: rs, stF) : Rs (Recs × St)) | .err a b => .err a b) | .err a b => .err a b) = .ok (rs, stF) := h
    split at h
    · next k st' hs =>
      split at h
      · next rs' stF' hr =>
        cases h
        obtain ⟨seq, h0, h1, h2, h3⟩ := runD_trace l (i + 1) st' rs' stF hr
        refine ⟨fun p => match p with | 0 => st | p + 1 => seq p, rfl, h1, by simp [h2], fun p o' ho => ?_⟩
        cases p with
        | zero =>
          cases ho
          refine ⟨k, rfl, ?_⟩
          show StepR P X call ops M o (i + 0) st k (seq 0)
          rw [h0]
          exact stepD_step hs
        | succ p =>
          obtain ⟨k', q1, q2⟩ := h3 p o' ho
          refine ⟨k', q1, ?_⟩
          have : i + (p + 1) = i + 1 + p := by omega
          rw [this]
          exact q2
      · cases h
    · cases h
end
end Go.Proofs.YtokbandookjdjaaGreat.Ev
