/- A symbolic evaluator of the model's code: regions that draw their order: the run. -/
import Derived.Test.YtokbandookjdjaaGreatEvD
namespace Go.Proofs.YtokbandookjdjaaGreat.Ev
open Go
/-- a run of the operations, in the text's order -/
structure Tr (P : Program) (X : Nat → Option Ext) (call : Answer) (ops : Array Oper) (M : List Nat) (st0 : St) (recs : Recs) (stF : St) (seq : Nat → St) : Prop where
  h0 : seq 0 = st0
  hn : seq ops.toList.length = stF
  hl : recs.length = ops.toList.length
  hs : ∀ p o, ops.toList[p]? = some o → ∃ k, recs[p]? = some (k, (seq p).aa) ∧ StepR P X call ops M o p (seq p) k (seq (p + 1))
section
variable {P : Program} {X : Nat → Option Ext} {call : Answer} {ops : Array Oper} {M : List Nat} {st0 stF : St} {recs : Recs} {seq : Nat → St}
theorem Tr.of (h : runD P X call ops M ops.toList 0 st0 = .ok (recs, stF)) : ∃ seq, Tr P X call ops M st0 recs stF seq := by
  obtain ⟨seq, h0, h1, h2, h3⟩ := runD_trace ops.toList 0 st0 recs stF h
  exact ⟨seq, h0, h1, h2, fun p o ho => by have := h3 p o ho; rw [Nat.zero_add] at this; exact this⟩
theorem Tr.up (t : Tr P X call ops M st0 recs stF seq) (hn : st0.news = []) (hlo : st0.louds = []) : ∀ j, j ≤ ops.toList.length → (∀ x ∈ (seq j).louds, x.1 < j ∧ ∃ v a, recs[x.1]? = some (.loud v, a)) ∧ (∀ x ∈ (seq j).news, x.1 < j ∧ ∃ v a, recs[x.1]? = some (.new v x.2.1 x.2.2, a)) := fun j => by
  induction j with
  | zero =>
    intro _
    rw [t.h0, hn, hlo]
    exact ⟨(fun x hx => by cases hx), (fun x hx => by cases hx)⟩
  | succ j ih =>
    intro hj
    obtain ⟨i1, i2⟩ := ih (by omega)
    obtain ⟨o, ho⟩ : ∃ o, ops.toList[j]? = some o := ⟨_, List.getElem?_eq_getElem (by omega)⟩
    obtain ⟨k, hk, hst⟩ := t.hs j o ho
    have w1 : ∀ x ∈ (seq j).louds, x.1 < j + 1 ∧ ∃ v a, recs[x.1]? = some (.loud v, a) := fun x hx => ⟨by have := (i1 x hx).1; omega, (i1 x hx).2⟩
    have w2 : ∀ x ∈ (seq j).news, x.1 < j + 1 ∧ ∃ v a, recs[x.1]? = some (.new v x.2.1 x.2.2, a) := fun x hx => ⟨by have := (i2 x hx).1; omega, (i2 x hx).2⟩
    generalize seq (j + 1) = stn at hst
    cases hst with
    | skip => exact ⟨w1, w2⟩
    | new v sx ob _ _ _ =>
      refine ⟨w1, fun x hx => ?_⟩
      rcases List.mem_append.1 hx with hx | hx
      · exact w2 x hx
      · have : x = (j, (seq j).nid, ob) := by simpa using hx
        subst this
        exact ⟨Nat.lt_succ_self _, v, _, hk⟩
    | loud v s1 _ _ _ _ =>
      refine ⟨fun x hx => ?_, w2⟩
      rcases List.mem_append.1 hx with hx | hx
      · exact w1 x hx
      · have : x = (j, (seq j).s) := by simpa using hx
        subst this
        exact ⟨Nat.lt_succ_self _, v, _, hk⟩
    | quiet v _ _ _ => exact ⟨w1, w2⟩
theorem Tr.down (t : Tr P X call ops M st0 recs stF seq) : ∀ d j, j + d = ops.toList.length → (∃ rl, stF.louds = (seq j).louds ++ rl ∧ ∀ x ∈ rl, j ≤ x.1) ∧ (∃ rn, stF.news = (seq j).news ++ rn ∧ ∀ x ∈ rn, j ≤ x.1) ∧ (seq j).s = stateAt stF.louds stF.s (seq j).louds.length := fun d => by
  induction d with
  | zero =>
    intro j hj
    have : j = ops.toList.length := by omega
    subst this
    rw [t.hn]
    refine ⟨⟨[], by simp, fun x hx => by cases hx⟩, ⟨[], by simp, fun x hx => by cases hx⟩, ?_⟩
    unfold stateAt
    rw [List.getElem?_eq_none (Nat.le_refl _)]
  | succ d ih =>
    intro j hj
    obtain ⟨⟨rl, l1, l2⟩, ⟨rn, n1, n2⟩, hst0⟩ := ih (j + 1) (by omega)
    obtain ⟨o, ho⟩ : ∃ o, ops.toList[j]? = some o := ⟨_, List.getElem?_eq_getElem (by omega)⟩
    obtain ⟨k, hk, hst⟩ := t.hs j o ho
    have l2' : ∀ x ∈ rl, j ≤ x.1 := fun x hx => by have := l2 x hx; omega
    have n2' : ∀ x ∈ rn, j ≤ x.1 := fun x hx => by have := n2 x hx; omega
    generalize seq (j + 1) = stn at hst l1 n1 hst0
    cases hst with
    | skip => exact ⟨⟨rl, l1, l2'⟩, ⟨rn, n1, n2'⟩, hst0⟩
    | new v sx ob _ _ _ =>
      refine ⟨⟨rl, l1, l2'⟩, ⟨(j, (seq j).nid, ob) :: rn, by rw [n1]; simp, fun x hx => ?_⟩, hst0⟩
      rcases List.mem_cons.1 hx with rfl | hx
      · exact Nat.le_refl _
      · exact n2' x hx
    | loud v s1 _ _ _ _ =>
      have l1' : stF.louds = (seq j).louds ++ (j, (seq j).s) :: rl := by rw [l1]; simp
      refine ⟨⟨(j, (seq j).s) :: rl, l1', fun x hx => ?_⟩, ⟨rn, n1, n2'⟩, ?_⟩
      · rcases List.mem_cons.1 hx with rfl | hx
        · exact Nat.le_refl _
        · exact l2' x hx
      · unfold stateAt
        rw [l1', List.getElem?_append_right (Nat.le_refl _), Nat.sub_self]
        rfl
    | quiet v _ _ _ => exact ⟨⟨rl, l1, l2'⟩, ⟨rn, n1, n2'⟩, hst0⟩
/-- the slot t is written by i -/
def Wr (ops : Array Oper) (i t : Nat) : Prop := ∃ o, ops.toList[i]? = some o ∧ o.dst = some t
theorem wr_unique (hd : distinctN (ops.toList.filterMap (·.dst)) = true) {i j t : Nat} (hi : Wr ops i t) (hj : Wr ops j t) : i = j := by
  have key : ∀ (l : List Oper), (l.filterMap (·.dst)).Nodup → ∀ (i j : Nat) (a b : Oper), l[i]? = some a → a.dst = some t → l[j]? = some b → b.dst = some t → i = j := by
    intro l
    induction l with
    | nil => intro _ i j a b h; simp at h
    | cons o l ih =>
      intro hn i j a b ha hat hb hbt
      have hmem : ∀ (q : Nat) (c : Oper), l[q]? = some c → c.dst = some t → t ∈ l.filterMap (·.dst) := fun q c hc hct => List.mem_filterMap.2 ⟨c, List.mem_of_getElem? hc, hct⟩
      have hn2 : (l.filterMap (·.dst)).Nodup := by
        cases ho : o.dst with
        | none => rw [List.filterMap_cons_none ho] at hn; exact hn
        | some u => rw [List.filterMap_cons_some ho] at hn; exact (List.nodup_cons.1 hn).2
      cases i with
      | zero =>
        cases ha
        rw [List.filterMap_cons_some hat, List.nodup_cons] at hn
        cases j with
        | zero => rfl
        | succ j => exact absurd (hmem j b hb hbt) hn.1
      | succ i =>
        cases j with
        | zero =>
          cases hb
          rw [List.filterMap_cons_some hbt, List.nodup_cons] at hn
          exact absurd (hmem i a ha hat) hn.1
        | succ j => rw [ih hn2 i j a b ha hat hb hbt]
  obtain ⟨a, ha, hat⟩ := hi
  obtain ⟨b, hb, hbt⟩ := hj
  exact key _ (distinctN_nodup hd) i j a b ha hat hb hbt
theorem putA_length (aa : List AV) (d : Option Tmp) (v : AV) : (putA aa d v).length = aa.length := by
  cases d with
  | none => rfl
  | some t => show (setA aa t v).length = _; rw [setA_eq, List.length_set]
theorem getT_putA (aa : List AV) (d : Option Tmp) (v : AV) (t : Nat) : getT (putA aa d v) t = if d = some t ∧ t < aa.length then v else getT aa t := by
  cases d with
  | none => simp [putA]
  | some u =>
    show getT (setA aa u v) t = _
    rw [setA_eq, getT_eq, getT_eq, List.getElem?_set]
    by_cases e : u = t
    · subst e
      by_cases hl : u < aa.length
      · simp [hl]
      · simp [hl]
    · simp [e]
theorem Tr.len (t : Tr P X call ops M st0 recs stF seq) : ∀ j, j ≤ ops.toList.length → (seq j).aa.length = st0.aa.length := fun j => by
  induction j with
  | zero => intro _; rw [t.h0]
  | succ j ih =>
    intro hj
    obtain ⟨o, ho⟩ : ∃ o, ops.toList[j]? = some o := ⟨_, List.getElem?_eq_getElem (by omega)⟩
    obtain ⟨k, hk, hst⟩ := t.hs j o ho
    rw [hst.aa, putA_length]
    exact ih (by omega)
/-- what a slot holds at a point of the run -/
theorem Tr.slot (t : Tr P X call ops M st0 recs stF seq) (hd : distinctN (ops.toList.filterMap (·.dst)) = true) (hlt : ∀ i u, Wr ops i u → u < st0.aa.length) (u : Nat) : ∀ j, j ≤ ops.toList.length →
    (∀ i, i < j → Wr ops i u → ∃ k a, recs[i]? = some (k, a) ∧ getT (seq j).aa u = k.val) ∧ ((∀ i, i < j → ¬ Wr ops i u) → getT (seq j).aa u = getT st0.aa u) := fun j => by
  induction j with
  | zero => intro _; rw [t.h0]; exact ⟨fun i hi => by omega, fun _ => rfl⟩
  | succ j ih =>
    intro hj
    obtain ⟨i1, i2⟩ := ih (by omega)
    obtain ⟨o, ho⟩ : ∃ o, ops.toList[j]? = some o := ⟨_, List.getElem?_eq_getElem (by omega)⟩
    obtain ⟨k, hk, hst⟩ := t.hs j o ho
    rw [hst.aa, getT_putA]
    have hl := t.len j (by omega)
    by_cases hw : Wr ops j u
    · obtain ⟨o', ho', hd'⟩ := hw
      rw [ho] at ho'
      cases ho'
      have hw : Wr ops j u := ⟨o, ho, hd'⟩
      rw [if_pos ⟨hd', by rw [hl]; exact hlt j u hw⟩]
      refine ⟨fun i hi hwi => ?_, fun hno => absurd hw (hno j (Nat.lt_succ_self _))⟩
      have := wr_unique hd hwi hw
      subst this
      exact ⟨k, _, hk, rfl⟩
    · rw [if_neg (fun h => hw ⟨o, ho, h.1⟩)]
      refine ⟨fun i hi hwi => ?_, fun hno => i2 fun i hi => hno i (by omega)⟩
      have hij : i ≠ j := fun e => hw (e ▸ hwi)
      exact i1 i (by omega) hwi
end
end Go.Proofs.YtokbandookjdjaaGreat.Ev
