/- A symbolic evaluator of the model's code: code. -/
import Derived.Test.YtokbandookjdjaaGreatEvW
namespace Go.Proofs.YtokbandookjdjaaGreat.Ev
open Go
def toExit : AX → Exit
  | .normal => .normal
  | .exit i => .exit i
  | .ret => .ret
section
variable {P : Program} {X : Nat → Option Ext} {call : Answer}
/-- what is promised of a region that draws its order -/
def DrawOk (P : Program) (X : Nat → Option Ext) (call : Answer) : Prop := ∀ (id : Nat) (ops : Array Oper) (aa : List AV) (s : AS) (aa' : List AV) (s' : AS), evDraw P X call ops aa s = .ok (aa', s') → ∀ (E : Emb) (w : World) (a : Act) (Q : Exit → Act → World → Prop), ActR E aa a → HSim E s.heap w → Fresh E s.next →
  (∀ E' a' w', ActR E' aa' a' → Eff s.next E s.heap w s'.next E' s'.heap w' → Q .normal a' w') → (Code.region id ops true).wp P Q a w
def CodeOk (P : Program) (X : Nat → Option Ext) (call : Answer) (c : Code) : Prop := ∀ (n : Nat) (aa : List AV) (s : AS) (x : AX) (aa' : List AV) (s' : AS), evCode P X call c n aa s = .ok (x, aa', s') → ∀ (E : Emb) (w : World) (a : Act) (Q : Exit → Act → World → Prop), ActR E aa a → HSim E s.heap w → Fresh E s.next →
  (∀ E' a' w', ActR E' aa' a' → Eff s.next E s.heap w s'.next E' s'.heap w' → Q (toExit x) a' w') → c.wp P Q a w
theorem loop_ok {c : Code} (n : Nat) (ih : CodeOk P X call c) : ∀ (m : Nat) (aa : List AV) (s : AS) (x : AX) (aa' : List AV) (s' : AS), loopR (evCode P X call c n) m aa s = .ok (x, aa', s') → ∀ (E : Emb) (w : World) (a : Act) (Q : Exit → Act → World → Prop), ActR E aa a → HSim E s.heap w → Fresh E s.next →
    (∀ E' a' w', ActR E' aa' a' → Eff s.next E s.heap w s'.next E' s'.heap w' → Q (toExit x) a' w') → Code.rounds P c Q m a w
  | 0, aa, s, x, aa', s', h, E, w, a, Q, ha, hs, hf, hQ => by cases h
  | m + 1, aa, s, x, aa', s', h, E, w, a, Q, ha, hs, hf, hQ => by
    have h : (match evCode P X call c n aa s with | .ok (.normal, aa1, s1) => loopR (evCode P X call c n) m aa1 s1 | r => r) = .ok (x, aa', s') := h
    rw [rounds_succ]
    split at h
    · next aa1 s1 hb =>
      exact ih n aa s .normal aa1 s1 hb E w a _ ha hs hf fun E1 a1 w1 h1 h2 => loop_ok n ih m aa1 s1 x aa' s' h E1 w1 a1 Q h1 h2.sim h2.fresh fun E2 a2 w2 h3 h4 => hQ E2 a2 w2 h3 (h2.trans h4)
    · next hne =>
      refine ih n aa s x aa' s' h E w a _ ha hs hf fun E1 a1 w1 h1 h2 => ?_
      have hq := hQ E1 a1 w1 h1 h2
      cases x with
      | normal => exact absurd h (hne _ _)
      | exit i => exact hq
      | ret => exact hq
theorem code_ok (hc : CallOk P call) (hX : ExtOk P X) (hD : DrawOk P X call) (c : Code) : CodeOk P X call c := by
  induction c with
  | skip => intro n aa s x aa' s' h E w a Q ha hs hf hQ; cases h; exact wp_skip (hQ E a w ha (Eff.refl hs hf))
  | region id ops draw =>
    intro n aa s x aa' s' h E w a Q ha hs hf hQ
    have h : (match (bif draw then evDraw P X call ops aa s else evOps P X call ops ops.toList aa s) with | .ok (aa', s') => (.ok (.normal, aa', s') : Rs (AX × List AV × AS)) | .err a b => .err a b) = .ok (x, aa', s') := h
    cases draw with
    | false =>
      simp only [cond_false] at h
      split at h
      · next aa1 s1 ho =>
        cases h
        exact wp_region_list (ops_ok hc hX _ _ _ _ _ E w a ho ha hs hf hQ)
      · cases h
    | true =>
      simp only [cond_true] at h
      split at h
      · next aa1 s1 ho =>
        cases h
        exact hD id ops aa s aa' s' ho E w a Q ha hs hf hQ
      · cases h
  | seq x y ihx ihy =>
    intro n aa s r aa' s' h E w a Q ha hs hf hQ
    have h : (match evCode P X call x n aa s with | .ok (.normal, aa1, s1) => evCode P X call y n aa1 s1 | r => r) = .ok (r, aa', s') := h
    refine wp_seq ?_
    split at h
    · next aa1 s1 hb =>
      exact ihx n aa s .normal aa1 s1 hb E w a _ ha hs hf fun E1 a1 w1 h1 h2 => ihy n aa1 s1 r aa' s' h E1 w1 a1 Q h1 h2.sim h2.fresh fun E2 a2 w2 h3 h4 => hQ E2 a2 w2 h3 (h2.trans h4)
    · next hne =>
      refine ihx n aa s r aa' s' h E w a _ ha hs hf fun E1 a1 w1 h1 h2 => ?_
      have hq := hQ E1 a1 w1 h1 h2
      cases r with
      | normal => exact absurd h (hne _ _)
      | exit i => exact hq
      | ret => exact hq
  | cond c x y ihx ihy =>
    intro n aa s r aa' s' h E w a Q ha hs hf hQ
    have h : (match evalA aa c with | .lit (.bool b) => bif b then evCode P X call x n aa s else evCode P X call y n aa s | _ => .err "cond" "") = .ok (r, aa', s') := h
    split at h
    · next b hb =>
      refine wp_cond (t := b) ((ha.eval c).trans (ev_lit hb)) ?_
      cases b with
      | true => exact ihx n aa s r aa' s' h E w a Q ha hs hf hQ
      | false => exact ihy n aa s r aa' s' h E w a Q ha hs hf hQ
    · cases h
  | block id c ih =>
    intro n aa s r aa' s' h E w a Q ha hs hf hQ
    have h : (match evCode P X call c n aa s with | .ok (.exit i, aa', s') => (.ok (bif Nat.beq i id then .normal else .exit i, aa', s') : Rs (AX × List AV × AS)) | r => r) = .ok (r, aa', s') := h
    refine wp_block ?_
    split at h
    · next i aa1 s1 hb =>
      cases h
      refine ih n aa s (.exit i) aa' s' hb E w a _ ha hs hf fun E1 a1 w1 h1 h2 => ?_
      have hq := hQ E1 a1 w1 h1 h2
      show (if i = id then Q .normal a1 w1 else Q (.exit i) a1 w1)
      by_cases e : i = id
      · subst e
        rw [if_pos rfl]
        simpa [toExit] using hq
      · rw [if_neg e]
        rw [nbeq_ne e] at hq
        exact hq
    · next hne =>
      refine ih n aa s r aa' s' h E w a _ ha hs hf fun E1 a1 w1 h1 h2 => ?_
      have hq := hQ E1 a1 w1 h1 h2
      cases r with
      | normal => exact hq
      | exit i => exact absurd h (hne _ _ _)
      | ret => exact hq
  | loop c ih =>
    intro n aa s r aa' s' h E w a Q ha hs hf hQ
    exact wp_loop_rounds n (loop_ok n ih n aa s r aa' s' h E w a Q ha hs hf hQ)
  | rangeFunc => intro n aa s r aa' s' h; cases h
  | exit id => intro n aa s x aa' s' h E w a Q ha hs hf hQ; cases h; exact wp_exit (hQ E a w ha (Eff.refl hs hf))
  | scope c ih =>
    intro n aa s r aa' s' h E w a Q ha hs hf hQ
    refine wp_scope_straight (ih n aa s r aa' s' h E w a _ ha hs hf fun E1 a1 w1 h1 h2 => ?_)
    have hq := hQ E1 a1 w1 h1 h2
    cases r <;> exact hq
  | label l => intro n aa s x aa' s' h E w a Q ha hs hf hQ; cases h; exact wp_label (hQ E a w ha (Eff.refl hs hf))
  | goto => intro n aa s r aa' s' h; cases h
  | ret => intro n aa s x aa' s' h E w a Q ha hs hf hQ; cases h; exact wp_ret (hQ E a w ha (Eff.refl hs hf))
  | refuse => intro n aa s r aa' s' h; cases h
/-- how the model reads one result -/
def readOne (tmps : Array Value) : ResultVar → Sem Value
  | .tmp t => pure (tmps.getD t undef)
  | .cell a t => do loadVar t (← asAddr (tmps.getD a undef))
theorem one_ok {E : Emb} {aa : List AV} {a : Act} {h : Heap} {w : World} (ha : ActR E aa a) (hs : HSim E h w) {r : ResultVar} {v : AV} (hr : resultOne P h aa r = some v) : (readOne a.tmps r).run P w = .ok (conc E v) w ∧ okA E v = true := by
  unfold resultOne at hr
  split at hr
  · next t =>
    cases hr
    exact ⟨by show Result.ok (a.tmps.getD t undef) w = _; rw [ha.tmp t], okA_getT ha.ok t⟩
  · next t ty =>
    split at hr
    · next id off hg =>
      obtain ⟨h1, h2⟩ := read_ok hs hr
      refine ⟨?_, h2⟩
      have h3 := ha.tmp t
      rw [hg] at h3
      show (do loadVar ty (← asAddr (a.tmps.getD t undef)) : Sem Value).run P w = _
      rw [h3]
      simp only [conc, Sem.run_bind, asAddr, Sem.run_pure, Result.andThen_ok, h1]
    · cases hr
theorem many_ok {E : Emb} {aa : List AV} {a : Act} {h : Heap} {w : World} (ha : ActR E aa a) (hs : HSim E h w) : ∀ (rs : List ResultVar) (vs : List AV), rs.mapM (resultOne P h aa) = some vs → (rs.mapM (readOne a.tmps)).run P w = .ok (concL E vs) w ∧ okL E vs = true ∧ vs.length = rs.length
  | [], vs, hr => by
    have : vs = [] := by simpa using hr.symm
    subst this
    exact ⟨by simp [concL], rfl, rfl⟩
  | r :: rs, vs, hr => by
    rw [List.mapM_cons] at hr
    cases h1 : resultOne P h aa r with
    | none => rw [h1] at hr; cases hr
    | some v =>
      cases h2 : rs.mapM (resultOne P h aa) with
      | none => rw [h1, h2] at hr; cases hr
      | some vs' =>
        rw [h1, h2] at hr
        have : vs = v :: vs' := by simpa using hr.symm
        subst this
        obtain ⟨o1, o2⟩ := one_ok ha hs h1
        obtain ⟨m1, m2, m3⟩ := many_ok ha hs rs vs' h2
        refine ⟨?_, by rw [okL, o2, m2]; rfl, by simp [m3]⟩
        rw [List.mapM_cons]
        simp only [Sem.run_bind, o1, m1, Result.andThen_ok, Sem.run_pure, concL]
theorem results_eq (fn : Func) (tmps : Array Value) : results fn tmps = (do let vs ← fn.results.mapM (readOne tmps); pure (if h : vs.size = 1 then vs[0] else .tuple vs)) := by
  unfold results
  congr 1
theorem result_ok {E : Emb} {aa : List AV} {a : Act} {h : Heap} {w : World} {fn : Func} {v : AV} (ha : ActR E aa a) (hs : HSim E h w) (hr : resultA P fn h aa = some v) : (results fn a.tmps).run P w = .ok (conc E v) w ∧ okA E v = true := by
  have gen : ∀ vs : List AV, fn.results.toList.mapM (resultOne P h aa) = some vs → (fn.results.mapM (readOne a.tmps)).run P w = .ok (concL E vs).toArray w ∧ okL E vs = true ∧ vs.length = fn.results.toList.length := fun vs hv => by
    obtain ⟨m1, m2, m3⟩ := many_ok ha hs fn.results.toList vs hv
    refine ⟨?_, m2, m3⟩
    rw [Array.mapM_eq_mapM_toList]
    simp [m1]
  rw [results_eq, Sem.run_bind]
  unfold resultA at hr
  split at hr
  · next hl =>
    cases hr
    obtain ⟨g1, -, -⟩ := gen [] (by rw [hl]; rfl)
    rw [g1]
    exact ⟨rfl, rfl⟩
  · next r hl =>
    have hv : fn.results.toList.mapM (resultOne P h aa) = some [v] := by
      rw [hl]
      simp [List.mapM_cons, hr]
    obtain ⟨g1, g2, -⟩ := gen [v] hv
    rw [g1]
    refine ⟨rfl, ?_⟩
    rw [okL, Bool.and_eq_true] at g2
    exact g2.1
  · next hn0 hn1 =>
    cases hm : fn.results.toList.mapM (resultOne P h aa) with
    | none => rw [hm] at hr; cases hr
    | some vs =>
      rw [hm] at hr
      cases hr
      obtain ⟨g1, g2, g3⟩ := gen vs hm
      rw [g1]
      refine ⟨?_, g2⟩
      have hne : (concL E vs).toArray.size ≠ 1 := by
        rw [List.size_toArray, concL_length, g3]
        intro h1
        match hl : fn.results.toList, h1 with
        | [r], _ => exact hn1 r hl
      simp only [Result.andThen_ok]
      rw [dif_neg hne]
      rfl
/-- no function with a body bears the name that the model answers itself -/
def NoName (P : Program) : Prop := ∀ (f : FuncId) (fn : Func), P.funcs[f]? = some fn → fn.body.isSome = true → (fn.name == "runtime.NumGoroutine") = false
theorem drop_sub {keep : Bool} {n : Nat} {v : AV} {h : Heap} : ∀ i o, (dropA keep n v h).get i = some o → h.get i = some o := fun i o hi => by
  unfold dropA at hi
  cases hc : (!keep && (lits v).isSome) with
  | false => rw [hc] at hi; exact hi
  | true =>
    rw [hc] at hi
    simp only [cond_true] at hi
    rw [get_filter (fun j => Nat.blt j n)] at hi
    split at hi
    · exact hi
    · cases hi
theorem body_ok {keep : Nat → Bool} {n : Nat} (hN : NoName P) (hc : CallOk P call) (hX : ExtOk P X) (hD : DrawOk P X call) : CallOk P (evBody P X keep n call) := by
  intro f args s v s' h E w ha hs hf
  unfold evBody at h
  split at h
  · cases h
  · next fn hfn =>
    split at h
    · cases h
    · next c hb =>
      refine ⟨fun args w => ?_, ?_⟩
      · have h1 : fn.name ≠ "runtime.NumGoroutine" := by simpa using hN f fn hfn (by rw [hb]; rfl)
        simp [callFunc, hfn, h1, hb]
      · split at h
        · next x aa1 s1 hcode =>
          have hfin : ∀ {x}, (∀ i, x ≠ AX.exit i) → (∀ E1 a1 w1, ActR E1 aa1 a1 → Eff s.next E s.heap w s1.next E1 s1.heap w1 → bodyPost P fn (fun e w' => ∃ E', e = .returned (conc E' v) ∧ okA E' v = true ∧ Eff s.next E s.heap w s'.next E' s'.heap w') (toExit x) a1 w1) → evCode P X call c n (args ++ List.replicate (fn.ntmps - args.length) (.lit undef)) s = .ok (x, aa1, s1) → Calls P f (concL E args).toArray w (fun e w' => ∃ E', e = .returned (conc E' v) ∧ okA E' v = true ∧ Eff s.next E s.heap w s'.next E' s'.heap w') := fun {x} _ hpost hcode => by
            refine calls_of_wp hfn hb (code_ok hc hX hD c n _ s x aa1 s1 hcode E w _ _ ⟨?_, rfl, okL_append ha ?_⟩ hs hf hpost)
            · show (concL E args).toArray ++ Array.replicate (fn.ntmps - (concL E args).toArray.size) undef = _
              rw [concL_append, List.size_toArray, concL_length]
              have : concL E (List.replicate (fn.ntmps - args.length) (AV.lit undef)) = List.replicate (fn.ntmps - args.length) undef := by rw [concL_map, List.map_replicate]; rfl
              rw [this]
              apply Array.ext'
              simp
            · rw [okL_iff]
              intro y hy
              rw [List.eq_of_mem_replicate hy]
              rfl
          have hdone : ∀ {x}, (x = AX.normal ∨ x = AX.ret) → (match resultA P fn s1.heap aa1 with | some v => (.ok (v, ⟨s1.next, dropA (keep f) s.next v s1.heap⟩) : Rs (AV × AS)) | none => .err "result" fn.name) = .ok (v, s') → (∀ E1 a1 w1, ActR E1 aa1 a1 → Eff s.next E s.heap w s1.next E1 s1.heap w1 → bodyPost P fn (fun e w' => ∃ E', e = .returned (conc E' v) ∧ okA E' v = true ∧ Eff s.next E s.heap w s'.next E' s'.heap w') (toExit x) a1 w1) := fun {x} hx h E1 a1 w1 h1 h2 => by
            split at h
            · next v1 hr =>
              cases h
              obtain ⟨r1, r2⟩ := result_ok h1 h2.sim hr
              rcases hx with rfl | rfl
              · exact ⟨h1.defers, _, r1, E1, rfl, r2, h2.sub drop_sub⟩
              · exact ⟨h1.defers, _, r1, E1, rfl, r2, h2.sub drop_sub⟩
            · cases h
          cases x with
          | normal => exact hfin (fun i e => by cases e) (hdone (Or.inl rfl) h) hcode
          | exit i => cases h
          | ret => exact hfin (fun i e => by cases e) (hdone (Or.inr rfl) h) hcode
        · cases h
end
end Go.Proofs.YtokbandookjdjaaGreat.Ev
