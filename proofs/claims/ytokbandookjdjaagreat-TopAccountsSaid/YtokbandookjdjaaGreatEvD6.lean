/- A symbolic evaluator of the model's code: regions that draw their order: one operation, whoever is next. -/
import Derived.Test.YtokbandookjdjaaGreatEvD5
namespace Go.Proofs.YtokbandookjdjaaGreat.Ev
open Go
/-- which of the news are there, and in no loud one's hands -/
def pendB (M : List Nat) (louds : Louds) (L : Nat → Bool) (x : Nat × Nat × AObj) : Bool := L x.1 && !(louds.any fun l => bm M x.1 l.1)
def freeB (M : List Nat) (louds : Louds) (j : Nat) (x : Nat × Nat × AObj) : Bool := bm M x.1 j && !(louds.any fun l => bm M x.1 l.1)
def ins (L : Nat → Bool) (j : Nat) : Nat → Bool := fun i => L i || Nat.beq i j
theorem ins_self (L : Nat → Bool) (j : Nat) : ins L j j = true := by simp [ins]
theorem ins_ne {L : Nat → Bool} {i j : Nat} (h : i ≠ j) : ins L j i = L i := by unfold ins; rw [nbeq_ne h, Bool.or_false]
theorem ins_old {L : Nat → Bool} {i j : Nat} (h : L i = true) : ins L j i = true := by unfold ins; rw [h, Bool.true_or]
theorem getD_putAct (a : Act) (d : Option Tmp) (v : Value) (t : Nat) : (a.put d v).tmps.getD t undef = if d = some t ∧ t < a.tmps.size then v else a.tmps.getD t undef := by
  cases d with
  | none => simp [Act.put]
  | some u =>
    show (a.tmps.setIfInBounds u v).getD t undef = _
    rw [Array.getD_eq_getD_getElem?, Array.getD_eq_getD_getElem?, Array.getElem?_setIfInBounds]
    by_cases e : u = t
    · subst e
      by_cases hl : u < a.tmps.size
      · simp [hl]
      · simp [hl]
    · simp [e]
theorem put_size (a : Act) (d : Option Tmp) (v : Value) : (a.put d v).tmps.size = a.tmps.size := by
  cases d with
  | none => rfl
  | some u => show (a.tmps.setIfInBounds u v).size = _; rw [Array.size_setIfInBounds]
theorem put_defs (a : Act) (d : Option Tmp) (v : Value) : (a.put d v).defers = a.defers := by cases d <;> rfl
/-- where a region stands when L have been -/
structure DInv (ops : Array Oper) (aa0 : List AV) (s0 : AS) (E0 : Emb) (w0 : World) (recs : Recs) (stF : St) (L : Nat → Bool) (q : Nat) (E : Emb) (a : Act) (w : World) : Prop where
  qle : q ≤ stF.louds.length
  clo : Closed ops.toList L
  defers : a.defers = []
  size : a.tmps.size = aa0.length
  wrt : ∀ i t k x, L i = true → Wr ops i t → recs[i]? = some (k, x) → a.tmps.getD t undef = conc E k.val ∧ okA E k.val = true
  unw : ∀ t, (∀ i, L i = true → ¬ Wr ops i t) → a.tmps.getD t undef = conc E (getT aa0 t) ∧ okA E (getT aa0 t) = true
  lou : ∀ (p : Nat) (l : Nat × AS), stF.louds[p]? = some l → (L l.1 = true ↔ p < q)
  nex : (stateAt stF.louds stF.s 0).next ≤ (stateAt stF.louds stF.s q).next
  unl : ∀ x ∈ stF.news, L x.1 = false → E x.2.1 = none
  eff : Eff s0.next E0 s0.heap w0 (stateAt stF.louds stF.s q).next E (F stF.news (pendB (masks ops.toList) (stF.louds.take q) L) ++ (stateAt stF.louds stF.s q).heap) w
def Ready (L : Nat → Bool) (o : Oper) : Prop := ∀ e ∈ o.after, Region.binds .any e = true → L e.on = true
section
variable {P : Program} {X : Nat → Option Ext} {call : Answer} {ops : Array Oper} {aa0 : List AV} {s0 : AS} {E0 : Emb} {w0 : World} {st0 stF : St} {recs : Recs} {seq : Nat → St} {L : Nat → Bool} {q j : Nat} {E : Emb} {a : Act} {w : World} {o : Oper}
theorem len_of (h : ops.toList[j]? = some o) : j < ops.toList.length := (List.getElem?_eq_some_iff.1 h).1
/-- what j reads is as in the run -/
theorem read_slot (t : Tr P X call ops (masks ops.toList) st0 recs stF seq) (ha0 : st0.aa = aa0) (d : DF P ops (masks ops.toList) s0.next aa0.length recs stF) (I : DInv ops aa0 s0 E0 w0 recs stF L q E a w)
    (ho : ops.toList[j]? = some o) (hj : L j = false) (hr : Ready L o) {u : Nat} (hu : readsT ops o u = true) : a.tmps.getD u undef = conc E (getT (seq j).aa u) ∧ okA E (getT (seq j).aa u) = true := by
  have hlen := len_of ho
  obtain ⟨t1, t2⟩ := t.slot d.dist (fun i u hw => by rw [ha0]; exact d.dlt i u hw) u j (by omega)
  by_cases hw : ∃ i, Wr ops i u
  · obtain ⟨i, hw⟩ := hw
    have huni : ∀ i', Wr ops i' u → i' = i := fun i' h => wr_unique d.dist h hw
    have hini : L i = false → (∀ i', i' < j → i' ≠ i) → a.tmps.getD u undef = conc E (getT (seq j).aa u) ∧ okA E (getT (seq j).aa u) = true := fun hLi hne => by
      rw [t2 (fun i' hi' hwi => hne i' hi' (huni i' hwi)), ha0]
      exact I.unw u fun i' hLi' hwi => by
        rw [huni i' hwi, hLi] at hLi'
        cases hLi'
    rcases d.reads i j o u hw ho hu with e | ⟨hij, hb⟩ | ⟨hij, hb⟩
    · subst e
      exact hini hj fun i' hi' => by omega
    · have hLi := bm_ready d.back I.clo ho hr hb
      obtain ⟨k, x, hk, hv⟩ := t1 i hij hw
      rw [hv]
      exact I.wrt i u k x hLi hw hk
    · refine hini ?_ fun i' hi' => by omega
      cases hLi : L i with
      | false => rfl
      | true =>
        have := bm_listed d.back I.clo i hLi hb
        rw [hj] at this
        cases this
  · rw [t2 (fun i' _ hwi => hw ⟨i', hwi⟩), ha0]
    exact I.unw u fun i' _ hwi => hw ⟨i', hwi⟩
/-- the next state, when j has been -/
theorem inv_next (d : DF P ops (masks ops.toList) s0.next aa0.length recs stF) (I : DInv ops aa0 s0 E0 w0 recs stF L q E a w) (ho : ops.toList[j]? = some o) (hr : Ready L o) {k : RK} {x : List AV} (hk : recs[j]? = some (k, x)) {E' : Emb} {w' : World} {q' : Nat} (hl : Le E E') (hv : okA E' k.val = true)
    (hq : q' ≤ stF.louds.length) (hlou : ∀ (p : Nat) (l : Nat × AS), stF.louds[p]? = some l → (ins L j l.1 = true ↔ p < q')) (hnex : (stateAt stF.louds stF.s 0).next ≤ (stateAt stF.louds stF.s q').next) (hunl : ∀ x ∈ stF.news, ins L j x.1 = false → E' x.2.1 = none)
    (heff : Eff s0.next E0 s0.heap w0 (stateAt stF.louds stF.s q').next E' (F stF.news (pendB (masks ops.toList) (stF.louds.take q') (ins L j)) ++ (stateAt stF.louds stF.s q').heap) w') :
    DInv ops aa0 s0 E0 w0 recs stF (ins L j) q' E' (a.put o.dst (conc E' k.val)) w' := by
  refine ⟨hq, fun i oi hoi hi e he hb => ?_, (put_defs a _ _).trans I.defers, (put_size a _ _).trans I.size, fun i t k' y hi hwi hk' => ?_, fun t hno => ?_, hlou, hnex, hunl, heff⟩
  · by_cases e1 : i = j
    · subst e1
      rw [ho] at hoi
      cases hoi
      exact ins_old (hr e he hb)
    · rw [ins_ne e1] at hi
      exact ins_old (I.clo i oi hoi hi e he hb)
  · rw [getD_putAct]
    by_cases e1 : o.dst = some t
    · have hwj : Wr ops j t := ⟨o, ho, e1⟩
      have := wr_unique d.dist hwi hwj
      subst this
      rw [hk] at hk'
      cases hk'
      rw [if_pos ⟨e1, by rw [I.size]; exact d.dlt i t hwi⟩]
      exact ⟨rfl, hv⟩
    · rw [if_neg (fun h => e1 h.1)]
      have hij : i ≠ j := fun e => by
        subst e
        obtain ⟨o', ho', hd'⟩ := hwi
        rw [ho] at ho'
        cases ho'
        exact e1 hd'
      rw [ins_ne hij] at hi
      obtain ⟨h1, h2⟩ := I.wrt i t k' y hi hwi hk'
      obtain ⟨h3, h4⟩ := conc_le hl _ h2
      exact ⟨h1.trans h3.symm, h4⟩
  · rw [getD_putAct, if_neg (fun h => hno j (ins_self L j) ⟨o, ho, h.1⟩)]
    obtain ⟨h1, h2⟩ := I.unw t fun i hi => hno i (ins_old hi)
    obtain ⟨h3, h4⟩ := conc_le hl _ h2
    exact ⟨h1.trans h3.symm, h4⟩
theorem part_facts (d : DF P ops (masks ops.toList) s0.next aa0.length recs stF) (I : DInv ops aa0 s0 E0 w0 recs stF L q E a w) (ho : ops.toList[j]? = some o) (hr : Ready L o) :
    (∀ x ∈ stF.news, pendB (masks ops.toList) (stF.louds.take q) L x = true → (stateAt stF.louds stF.s q).heap.get x.2.1 = none) ∧
    (∀ x ∈ stF.news, pendB (masks ops.toList) (stF.louds.take q) L x = ((pendB (masks ops.toList) (stF.louds.take q) L x && !(bm (masks ops.toList) x.1 j)) || freeB (masks ops.toList) (stF.louds.take q) j x)) ∧
    (∀ x ∈ stF.news, (pendB (masks ops.toList) (stF.louds.take q) L x && !(bm (masks ops.toList) x.1 j)) = true → freeB (masks ops.toList) (stF.louds.take q) j x = false) := by
  refine ⟨fun x hx hp => ?_, fun x _ => ?_, fun x _ h => ?_⟩
  · unfold pendB at hp
    rw [Bool.and_eq_true, Bool.not_eq_true'] at hp
    rcases d.free q I.qle x hx with h | h
    · rw [hp.2] at h
      cases h
    · exact h
  · unfold pendB freeB
    cases hb : bm (masks ops.toList) x.1 j with
    | false => simp
    | true =>
      rw [bm_ready d.back I.clo ho hr hb]
      simp
  · rw [Bool.and_eq_true, Bool.not_eq_true'] at h
    unfold freeB
    rw [h.2]
    rfl
theorem part_iff (d : DF P ops (masks ops.toList) s0.next aa0.length recs stF) (I : DInv ops aa0 s0 E0 w0 recs stF L q E a w) (ho : ops.toList[j]? = some o) (hr : Ready L o) {i : Nat} {ob : AObj} :
    Heap.get (F stF.news (fun x => pendB (masks ops.toList) (stF.louds.take q) L x && !(bm (masks ops.toList) x.1 j)) ++ (F stF.news (freeB (masks ops.toList) (stF.louds.take q) j) ++ (stateAt stF.louds stF.s q).heap)) i = some ob ↔ Heap.get (F stF.news (pendB (masks ops.toList) (stF.louds.take q) L) ++ (stateAt stF.louds stF.s q).heap) i = some ob := by
  obtain ⟨h1, h2, h3⟩ := part_facts d I ho hr
  exact getFFS d.idn h2 h3 h1
/-- what j does with what it can know of, the rest being as it was -/
theorem part_step (d : DF P ops (masks ops.toList) s0.next aa0.length recs stF) (I : DInv ops aa0 s0 E0 w0 recs stF L q E a w) (ho : ops.toList[j]? = some o) (hr : Ready L o) :
    HSim E (F stF.news (freeB (masks ops.toList) (stF.louds.take q) j) ++ (stateAt stF.louds stF.s q).heap) w ∧
    ∀ n1 E1 h1 w1, Eff (stateAt stF.louds stF.s q).next E (F stF.news (freeB (masks ops.toList) (stF.louds.take q) j) ++ (stateAt stF.louds stF.s q).heap) w n1 E1 h1 w1 →
      Eff s0.next E0 s0.heap w0 n1 E1 (F stF.news (fun x => pendB (masks ops.toList) (stF.louds.take q) L x && !(bm (masks ops.toList) x.1 j)) ++ h1) w1 := by
  obtain ⟨hfree, hp, hrf⟩ := part_facts d I ho hr
  have hiff := fun i ob => part_iff d I ho hr (i := i) (ob := ob)
  generalize hS : stateAt stF.louds stF.s q = S at hfree hiff
  have heff := I.eff
  rw [hS] at heff
  have hrun := heff.sub (fun i ob h => (hiff i ob).1 h)
  have hff : ∀ x ∈ stF.news, freeB (masks ops.toList) (stF.louds.take q) j x = true → pendB (masks ops.toList) (stF.louds.take q) L x = true := fun x hx h => by rw [hp x hx, h, Bool.or_true]
  refine ⟨heff.sim.sub fun i ob h => ?_, fun n1 E1 h1 w1 e => hrun.trans (e.frame (e.le heff.fresh) hrun.sim fun i ob p hg hh => ?_)⟩
  · rw [getFS d.idn (fun x hx h => hfree x hx (hff x hx h))] at h
    rw [getFS d.idn hfree]
    exact h.imp (fun ⟨x, hx, h2, e⟩ => ⟨x, hx, hff x hx h2, e⟩) id
  · obtain ⟨x, hx, hpx, e1⟩ := mem_of_getF hg
    have h2 : Heap.get (F stF.news (freeB (masks ops.toList) (stF.louds.take q) j) ++ S.heap) x.2.1 = none := by
      rw [get_append, F_none d.idn hx (hrf x hx hpx)]
      rw [Bool.and_eq_true] at hpx
      exact hfree x hx hpx.1
    rw [e1] at h2
    rw [h2] at hh
    cases hh
end
end Go.Proofs.YtokbandookjdjaaGreat.Ev
