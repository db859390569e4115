/- A symbolic evaluator of the model's code: an operation's weakest precondition; a list of operations. -/
import Derived.Test.YtokbandookjdjaaGreatEvX
namespace Go.Proofs.YtokbandookjdjaaGreat.Ev
open Go
/-- what the answers to calls promise -/
def CallOk (P : Program) (call : Answer) : Prop := ∀ f args s v s', call f args s = .ok (v, s') → ∀ E w, okL E args = true → HSim E s.heap w → Fresh E s.next →
  (∀ args w, (callFunc f args).run P w = .ok (.enter f args) w) ∧ Calls P f (concL E args).toArray w fun e w' => ∃ E', e = .returned (conc E' v) ∧ okA E' v = true ∧ Eff s.next E s.heap w s'.next E' s'.heap w'
section
variable {P : Program} {X : Nat → Option Ext} {call : Answer} {o : Oper} {E : Emb} {w : World} {v : AV} {s s' : AS} {aa : List AV} {a : Act} {K : Act → World → Prop} {Q : Exit → Act → World → Prop}
theorem exec_call {f : Operand} {args : Array Operand} {ts : Array TypeId} {ev : Operand → Value} {g : FuncId} {caps : Array Value} (hop : o.op = .call { callee := .value f, args, argTypes := ts }) (hf : ev f = .func (.func g) #[] caps) :
    execOp ev o = callFunc g (args.map ev ++ caps) := by
  unfold execOp
  rw [hop]
  show (do let d ← resolve ev { callee := .value f, args := args, argTypes := ts } o.type; invoke d.target d.args) = _
  unfold resolve
  dsimp only
  rw [hf]
  show invoke (.fn (.func g) caps) (#[] ++ args.map ev) = _
  rw [Array.empty_append]
  rfl
theorem value_ok {f : AV} {args : List AV} (hc : CallOk P call) (hX : ExtOk P X) (h : evValue P X call f args s = .ok (v, s')) (hfo : okA E f = true) (ha : okL E args = true) (hs : HSim E s.heap w) (hf : Fresh E s.next)
    (hrun : ∀ g caps, conc E f = .func (.func g) #[] caps → (execOp a.eval o) = callFunc g ((concL E args).toArray ++ caps)) (hK : ∀ E' w', okA E' v = true → Eff s.next E s.heap w s'.next E' s'.heap w' → K (a.put o.dst (conc E' v)) w') : o.wp P a w K Q := by
  have tgt : ∀ (g : FuncId) (caps : List AV), evTarget P X call g (args ++ caps) s = .ok (v, s') → conc E f = .func (.func g) #[] (concL E caps).toArray → okL E caps = true → o.wp P a w K Q := fun g caps ht hcf hco => by
    have hr := hrun g _ hcf
    have hargs : (concL E args).toArray ++ (concL E caps).toArray = (concL E (args ++ caps)).toArray := by rw [concL_append]; simp
    rw [hargs] at hr
    have hok := okL_append ha hco
    unfold evTarget at ht
    unfold Oper.wp
    rw [hr]
    split at ht
    · next k hk =>
      split at ht
      · next r hev =>
        cases ht
        obtain ⟨E', w', r1, r2, r3⟩ := ext_ok hev (hX g k hk) hok hs hf
        rw [r1]
        exact hK E' w' r2 r3
      · cases ht
    · obtain ⟨h1, h2⟩ := hc g _ s v s' ht E w hok hs hf
      rw [h1]
      show Calls P g _ w _
      refine h2.mono fun e w' he => ?_
      obtain ⟨E', rfl, r2, r3⟩ := he
      exact hK E' w' r2 r3
  unfold evValue at h
  split at h
  · next g caps =>
    rw [okA] at hfo
    exact tgt g caps h (by simp only [conc]) hfo
  · next g first caps =>
    cases hfi : first.isEmpty with
    | false => rw [hfi] at h; cases h
    | true =>
      rw [hfi] at h
      have h0 : first = #[] := by simpa using hfi
      subst h0
      refine tgt g (caps.toList.map .lit) h ?_ (okL_lit E _)
      rw [concL_lit]
      rfl
  · cases h
theorem oper_ok (hc : CallOk P call) (hX : ExtOk P X) (h : evOper P X call o aa s = .ok (v, s')) (ha : okL E aa = true) (hs : HSim E s.heap w) (hf : Fresh E s.next) (hev : ∀ x ∈ o.op.operands, a.eval x = evE E aa x)
    (hK : ∀ E' w', okA E' v = true → Eff s.next E s.heap w s'.next E' s'.heap w' → K (a.put o.dst (conc E' v)) w') : o.wp P a w K Q := by
  unfold evOper at h
  split at h
  · next f args ts hop =>
    have hops : o.op.operands = #[f] ++ args := by rw [hop]; rfl
    have hmap : args.map a.eval = (concL E (args.toList.map (evalA aa))).toArray := by
      apply Array.ext'
      rw [Array.toList_map, concL_map, List.map_map]
      apply List.map_congr_left
      intro x hx
      rw [hev x (by rw [hops]; exact Array.mem_append.2 (Or.inr (Array.mem_toList_iff.1 hx)))]
      rfl
    have hfe : a.eval f = conc E (evalA aa f) := hev f (by rw [hops]; simp)
    have hok : okL E (args.toList.map (evalA aa)) = true := by
      rw [okL_iff]
      intro y hy
      obtain ⟨x, -, rfl⟩ := List.mem_map.1 hy
      exact okA_eval ha x
    refine value_ok hc hX h (okA_eval ha f) hok hs hf (fun g caps hg => ?_) hK
    rw [← hmap]
    exact exec_call hop (hfe.trans hg)
  · split at h
    · next r hr =>
      cases h
      have hns : ∀ cs b, o.op ≠ .select cs b := fun cs b e => by
        unfold evOp evOwn evPure at hr
        rw [e] at hr
        cases hr
      have hcg : execOp a.eval o = execOp (evE E aa) o := execOp_congr o hns hev
      obtain ⟨E', w', nx, r1, r2, r3, r4⟩ := evOp_ok hr ha hs hf
      unfold Oper.wp
      rw [hcg, r1]
      rcases r2 with rfl | ⟨rfl, rfl⟩
      · exact hK E' w' r3 r4
      · exact hK E' w' r3 r4
    · cases h
/-- the frame of a call stands for the abstract one -/
structure ActR (E : Emb) (aa : List AV) (a : Act) : Prop where
  tmps : a.tmps = (concL E aa).toArray
  defers : a.defers = []
  ok : okL E aa = true
theorem ActR.eval (h : ActR E aa a) (x : Operand) : a.eval x = evE E aa x := by
  cases x with
  | tmp t =>
    show a.tmps.getD t undef = conc E (getT aa t)
    rw [h.tmps, getT_eq]
    rw [Array.getD_eq_getD_getElem?, List.getElem?_toArray, concL_get]
    cases aa[t]? <;> rfl
  | const v => rfl
  | global g => rfl
  | func f => rfl
theorem okL_set {l : List AV} (h : okL E l = true) (hv : okA E v = true) (n : Nat) : okL E (l.set n v) = true := by
  rw [okL_iff] at h ⊢
  intro x hx
  rcases List.mem_or_eq_of_mem_set hx with h1 | rfl
  · exact h x h1
  · exact hv
theorem concL_set (l : List AV) (n : Nat) : concL E (l.set n v) = (concL E l).set n (conc E v) := by rw [concL_map, concL_map, List.map_set]
theorem ActR.put (h : ActR E aa a) (hv : okA E v = true) (d : Option Tmp) : ActR E (putA aa d v) (a.put d (conc E v)) := by
  cases d with
  | none => exact h
  | some t =>
    refine ⟨?_, h.defers, ?_⟩
    · show a.tmps.setIfInBounds t (conc E v) = (concL E (setA aa t v)).toArray
      rw [h.tmps, setA_eq, concL_set, List.setIfInBounds_toArray]
    · show okL E (setA aa t v) = true
      rw [setA_eq]
      exact okL_set h.ok hv t
theorem ActR.le {E' : Emb} (h : ActR E aa a) (hl : Le E E') : ActR E' aa a := by
  have := concL_le hl aa h.ok
  exact ⟨by rw [this.1]; exact h.tmps, h.defers, this.2⟩
theorem lit_bool {x : AV} : (match x with | .lit (.bool b) => some b | _ => none) = (match conc E x with | .bool b => some b | _ => none) := by
  cases x with
  | lit y => cases y <;> rfl
  | _ => simp only [conc]
theorem yielded_ok {ops : Array Oper} {g : Nat} (h : ∀ t, (ops[g]?).bind (·.dst) = some t → a.tmps.getD t undef = conc E (getT aa t)) : yielded ops a.tmps g = yieldedA ops aa g := by
  unfold yielded yieldedA
  cases hd : (ops[g]?).bind (·.dst) with
  | none => rfl
  | some t =>
    have h1 := h t hd
    simp only [Option.bind_some]
    have h2 := lit_bool (E := E) (x := getT aa t)
    have h3 : (match getT aa t with | .lit (.bool b) => some b | _ => none) = (match a.tmps[t]? with | some (.bool b) => some b | _ => none) := by
      rw [h2, ← h1, Array.getD_eq_getD_getElem?]
      cases a.tmps[t]? with
      | none => rfl
      | some z => cases z <;> rfl
    exact h3.symm
theorem wanted_ok {ops : Array Oper} (h : ∀ g b, o.guard = some (g, b) → ∀ t, (ops[g]?).bind (·.dst) = some t → a.tmps.getD t undef = conc E (getT aa t)) : Region.wanted o (yielded ops a.tmps) = wantedA ops aa o := by
  unfold Region.wanted wantedA
  cases hg : o.guard with
  | none => rfl
  | some p =>
    obtain ⟨g, b⟩ := p
    dsimp only
    rw [yielded_ok (E := E) (aa := aa) (h g b hg)]
    cases yieldedA ops aa g with
    | none => rfl
    | some y => cases y <;> cases b <;> rfl
theorem ActR.tmp (h : ActR E aa a) (t : Nat) : a.tmps.getD t undef = conc E (getT aa t) := h.eval (.tmp t)
/-- the operations of a region, in the text's order -/
theorem ops_ok (hc : CallOk P call) (hX : ExtOk P X) {ops : Array Oper} : ∀ (l : List Oper) (aa : List AV) (s : AS) (aa' : List AV) (s' : AS) (E : Emb) (w : World) (a : Act), evOps P X call ops l aa s = .ok (aa', s') → ActR E aa a → HSim E s.heap w → Fresh E s.next →
    (∀ E' a' w', ActR E' aa' a' → Eff s.next E s.heap w s'.next E' s'.heap w' → Q .normal a' w') → wpList P ops Q l a w
  | [], aa, s, aa', s', E, w, a, h, ha, hs, hf, hQ => by
    cases h
    exact hQ E a w ha (Eff.refl hs hf)
  | o :: r, aa, s, aa', s', E, w, a, h, ha, hs, hf, hQ => by
    have h : (match stepOp P X call ops o aa s with | .ok (aa1, s1) => evOps P X call ops r aa1 s1 | .err a b => .err a b) = .ok (aa', s') := h
    split at h
    · next aa1 s1 hst =>
      have hw := wanted_ok (o := o) (ops := ops) (E := E) (aa := aa) (a := a) (fun g b _ t _ => ha.tmp t)
      unfold stepOp at hst
      unfold wpList
      rw [hw]
      cases hwa : wantedA ops aa o with
      | false =>
        rw [hwa] at hst
        cases hst
        rw [if_neg (by simp)]
        exact ops_ok hc hX r _ _ _ _ E w _ h (ha.put (v := .lit undef) rfl o.dst) hs hf hQ
      | true =>
        rw [hwa] at hst
        simp only [cond_true] at hst
        rw [if_pos rfl]
        split at hst
        · next v s2 ho =>
          cases hst
          refine Or.inl (oper_ok hc hX ho ha.ok hs hf (fun x _ => ha.eval x) fun E1 w1 hv he => ?_)
          have hl := he.le hf
          exact ops_ok hc hX r _ _ _ _ E1 w1 _ h ((ha.le hl).put hv o.dst) he.sim he.fresh fun E2 a2 w2 h1 h2 => hQ E2 a2 w2 h1 (he.trans h2)
        · cases hst
    · cases h
end
end Go.Proofs.YtokbandookjdjaaGreat.Ev
