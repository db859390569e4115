/- A symbolic evaluator of the model's code: regions that draw their order: the step. -/
import Derived.Test.YtokbandookjdjaaGreatEvD7
namespace Go.Proofs.YtokbandookjdjaaGreat.Ev
open Go
section
variable {P : Program} {X : Nat → Option Ext} {call : Answer} {ops : Array Oper} {aa0 : List AV} {s0 : AS} {E0 : Emb} {w0 : World} {st0 stF : St} {recs : Recs} {seq : Nat → St} {L : Nat → Bool} {q j : Nat} {E : Emb} {a : Act} {w : World} {o : Oper}
theorem draw_step (hc : CallOk P call) (hX : ExtOk P X) (t : Tr P X call ops (masks ops.toList) st0 recs stF seq) (ha0 : st0.aa = aa0) (hnn : st0.news = []) (hlo : st0.louds = []) (d : DF P ops (masks ops.toList) s0.next aa0.length recs stF) (I : DInv ops aa0 s0 E0 w0 recs stF L q E a w)
    (ho : ops.toList[j]? = some o) (hj : L j = false) (hr : Ready L o) {K : Act → World → Prop} {Q : Exit → Act → World → Prop} (hK : ∀ q' E' a' w', DInv ops aa0 s0 E0 w0 recs stF (ins L j) q' E' a' w' → K a' w') : wpOp P ops Q j K a w := by
  have hlen := len_of ho
  have hops : ops[j]? = some o := by rw [← Array.getElem?_toList]; exact ho
  have hslot : ∀ u, readsT ops o u = true → a.tmps.getD u undef = conc E (getT (seq j).aa u) ∧ okA E (getT (seq j).aa u) = true := fun u hu => read_slot t ha0 d I ho hj hr hu
  have hwant : Region.wanted o (yielded ops a.tmps) = wantedA ops (seq j).aa o := wanted_ok (E := E) fun g b hg u hu => (hslot u (reads_guard hg hu)).1
  have hok : okL E (maskA (readsT ops o) (seq j).aa) = true := okL_mask fun u hu => (hslot u hu).2
  have heq : ∀ x ∈ o.op.operands, evalA (seq j).aa x = evalA (maskA (readsT ops o) (seq j).aa) x := fun x hx => by
    cases x with
    | tmp u =>
      show getT (seq j).aa u = getT (maskA (readsT ops o) (seq j).aa) u
      rw [getT_mask, if_pos (reads_op hx)]
    | _ => rfl
  have hev : ∀ x ∈ o.op.operands, a.eval x = evE E (maskA (readsT ops o) (seq j).aa) x := fun x hx => by
    unfold evE
    rw [← heq x hx]
    cases x with
    | tmp u => exact (hslot u (reads_op hx)).1
    | _ => rfl
  obtain ⟨k, hk, hst⟩ := t.hs j o ho
  obtain ⟨⟨rl, hrl, hrl2⟩, ⟨rn, hrn, hrn2⟩, hsj⟩ := t.down (ops.toList.length - j) j (by omega)
  obtain ⟨⟨rl', hrl', -⟩, ⟨rn', hrn', -⟩, hsj'⟩ := t.down (ops.toList.length - (j + 1)) (j + 1) (by omega)
  generalize seq (j + 1) = stn at hst hrl' hrn' hsj'
  have hS0 := I.nex
  have hunl : ∀ {E' : Emb}, (∀ i, i < (stateAt stF.louds stF.s q).next → E' i = E i) → ∀ x ∈ stF.news, ins L j x.1 = false → E' x.2.1 = none := fun {E'} he x hx hi => by
    rw [he _ (by have := (d.ids x hx).2; omega)]
    refine I.unl x hx ?_
    unfold ins at hi
    rw [Bool.or_eq_false_iff] at hi
    exact hi.1
  unfold wpOp
  rw [hops]
  dsimp only
  rw [hwant]
  cases hst with
  | skip hw =>
    rw [hw, if_neg (by simp)]
    have hkn : ∀ v i b, RK.skip ≠ .new v i b := fun v i b e => by cases e
    refine hK q E _ w (inv_next (k := .skip) (E' := E) d I ho hr hk (fun i p h => h) rfl I.qle (lou_same t hnn hlo I hk fun v e => by cases e) I.nex (hunl fun _ _ => rfl) ?_)
    rw [pend_same t hnn hlo hk hkn]
    exact I.eff
  | new v sx ob hw hnew he =>
    rw [hw, if_pos rfl]
    refine Or.inl ?_
    rw [op_congr o heq] at he
    have hmem : (j, (seq j).nid, ob) ∈ stF.news := by rw [hrn']; simp
    have hid := d.ids _ hmem
    have hE := I.unl _ hmem hj
    obtain ⟨c, r1, r2, r3, r4⟩ := new_run (w := w) hnew he hok hE
    have hns : ∀ cs b, o.op ≠ .select cs b := fun cs b e => by rw [e] at hnew; cases hnew
    unfold Oper.wp
    rw [execOp_congr o hns hev, r1]
    have hl := upd_le hE (w.heap.size, 0)
    have haside := eff_aside I.eff hid.1 (by have := hid.2; dsimp only at this ⊢; omega) hE (w' := w.alloc c) rfl rfl rfl rfl r3 r4
    refine hK q _ _ _ (inv_next (k := .new v (seq j).nid ob) d I ho hr hk hl r2 I.qle (lou_same t hnn hlo I hk fun v e => by cases e) I.nex (fun x hx hi => ?_) (haside.sub fun i p h => ?_))
    · have hxj : x.1 ≠ j := fun e => by rw [e, ins_self] at hi; cases hi
      have hne : x.2.1 ≠ (seq j).nid := fun e => hxj (by rw [news_eq d.idn hx hmem e])
      unfold upd
      rw [if_neg hne]
      rw [ins_ne hxj] at hi
      exact I.unl x hx hi
    · have habs : ∀ x ∈ stF.news, pendB (masks ops.toList) (stF.louds.take q) (ins L j) x = true → x.1 = j ∨ pendB (masks ops.toList) (stF.louds.take q) L x = true := fun x _ h2 => by
        by_cases e : x.1 = j
        · exact Or.inl e
        · refine Or.inr ?_
          unfold pendB at h2 ⊢
          rw [ins_ne e] at h2
          exact h2
      rw [get_cons]
      rw [get_append] at h
      cases hg : (F stF.news (pendB (masks ops.toList) (stF.louds.take q) (ins L j))).get i with
      | some p' =>
        rw [hg] at h
        have hp' := Option.some.inj h
        subst hp'
        obtain ⟨x, hx, hpx, e1⟩ := mem_of_getF hg
        rcases habs x hx hpx with e | h2
        · have hxe : x.2 = ((seq j).nid, ob) := by
            obtain ⟨v1, b1, h5⟩ := rec_news t hnn hlo hx
            rw [e, hk] at h5
            simp only [Option.some.injEq, Prod.mk.injEq, RK.new.injEq] at h5
            exact Prod.ext h5.1.2.1.symm h5.1.2.2.symm
          rw [hxe] at e1
          simp only [Prod.mk.injEq] at e1
          rw [if_pos e1.1, e1.2]
        · have h5 := get_of_memF d.idn hx h2
          rw [e1] at h5
          have hne : (seq j).nid ≠ i := fun e => by
            have hxm := news_eq d.idn hx hmem (by rw [e1]; exact e.symm)
            unfold pendB at h2
            rw [hxm] at h2
            dsimp only at h2
            rw [hj] at h2
            cases h2
          rw [if_neg hne, get_append, h5]
      | none =>
        rw [hg] at h
        have hnn2 : (F stF.news (pendB (masks ops.toList) (stF.louds.take q) L)).get i = none := by
          cases hg2 : (F stF.news (pendB (masks ops.toList) (stF.louds.take q) L)).get i with
          | none => rfl
          | some p' =>
            obtain ⟨x, hx, hpx, e1⟩ := mem_of_getF hg2
            have h5 : pendB (masks ops.toList) (stF.louds.take q) (ins L j) x = true := by
              unfold pendB at hpx ⊢
              rw [Bool.and_eq_true] at hpx ⊢
              exact ⟨ins_old hpx.1, hpx.2⟩
            have h6 := get_of_memF d.idn hx h5
            rw [e1] at h6
            rw [h6] at hg
            cases hg
        have h3 : Heap.get (F stF.news (pendB (masks ops.toList) (stF.louds.take q) L) ++ (stateAt stF.louds stF.s q).heap) i = some p := by
          rw [get_append, hnn2]
          exact h
        have hne : (seq j).nid ≠ i := fun e => by
          have := (I.eff.sim.obj i p h3).1
          rw [← e, hE] at this
          cases this
        rw [if_neg hne]
        exact h3
  | loud v s1 hw hnew hloud he =>
    rw [hw, if_pos rfl]
    refine Or.inl ?_
    dsimp only at hrl' hrn' hsj'
    have hkn : ∀ v' i b, RK.loud v ≠ .new v' i b := fun v' i b e => by cases e
    have hp : stF.louds[(seq j).louds.length]? = some (j, (seq j).s) := by
      rw [hrl', List.getElem?_append_left (by simp), List.getElem?_append_right (Nat.le_refl _), Nat.sub_self]
      rfl
    have hq : (seq j).louds.length = q := by
      have h1 : ¬ (seq j).louds.length < q := fun h => by
        have := (I.lou _ _ hp).2 h
        rw [hj] at this
        cases this
      have h2 : q ≤ (seq j).louds.length := by omega
      rcases Nat.eq_or_lt_of_le h2 with h3 | h3
      · exact h3.symm
      · exfalso
        have hq1 : q < stF.louds.length := by
          have := (List.getElem?_eq_some_iff.1 hp).1
          omega
        have hgq := List.getElem?_eq_getElem hq1
        have hb := d.louds q _ _ _ h3 hgq hp
        have := (I.lou q _ hgq).1 (bm_ready d.back I.clo ho hr hb)
        omega
    have htake : stF.louds.take q = (seq j).louds := by
      rw [hrl, ← hq, List.take_left]
    have hs : (seq j).s = stateAt stF.louds stF.s q := by rw [hsj, hq]
    have hfr : freeN (masks ops.toList) (seq j).news (seq j).louds j = F stF.news (freeB (masks ops.toList) (stF.louds.take q) j) := by
      rw [htake, hrn, F_append, F_nil (n := rn) (fun x hx => ?_), List.append_nil]
      · rfl
      · unfold freeB
        cases hb : bm (masks ops.toList) x.1 j with
        | false => rfl
        | true =>
          have := bm_lt d.back j hb
          have := hrn2 x hx
          omega
    have hs1 : s1 = stateAt stF.louds stF.s (q + 1) := by
      rw [hsj', List.length_append, hq]
      rfl
    rw [hfr, hs] at he
    rw [oper_congr o heq] at he
    obtain ⟨p1, p2⟩ := part_step d I ho hr
    refine oper_ok hc hX he hok p1 I.eff.fresh hev fun E' w' hv e => ?_
    have hl := e.le I.eff.fresh
    subst hs1
    refine hK (q + 1) E' _ w' (inv_next (k := .loud v) d I ho hr hk hl hv ?_ (fun p l hpl => ?_) (Nat.le_trans I.nex e.nn) (hunl e.ext) ?_)
    · have := (List.getElem?_eq_some_iff.1 hp).1
      omega
    · by_cases ej : l.1 = j
      · rw [ej, ins_self]
        have : p = q := by
          rcases Nat.lt_trichotomy p q with h | h | h
          · have := (I.lou p l hpl).2 h
            rw [ej, hj] at this
            cases this
          · exact h
          · have hb := d.louds _ _ _ _ (by rw [hq]; exact h) hp hpl
            have := bm_lt d.back _ hb
            dsimp only at this
            omega
        subst this
        simp
      · rw [ins_ne ej, I.lou p l hpl]
        have : p ≠ q := fun e2 => by
          rw [e2, ← hq, hp] at hpl
          cases hpl
          exact ej rfl
        omega
    · have := p2 _ _ _ _ e
      have hF : F stF.news (fun x => pendB (masks ops.toList) (stF.louds.take q) L x && !(bm (masks ops.toList) x.1 j)) = F stF.news (pendB (masks ops.toList) (stF.louds.take (q + 1)) (ins L j)) := F_congr fun y hy => by
        have h5 := unl_same t hnn hlo hk hkn hy
        have h6 : stF.louds.take (q + 1) = stF.louds.take q ++ [(j, (seq j).s)] := by
          rw [List.take_add_one, ← hq, hp]
          rfl
        unfold pendB
        rw [ins_ne h5, h6, List.any_append]
        simp only [List.any_cons, List.any_nil, Bool.or_false, Bool.not_or, Bool.and_assoc]
      rw [← hF]
      exact this
  | quiet v hw hnew hloud =>
    rw [hw, if_pos rfl]
    refine Or.inl ?_
    have hkn : ∀ v' i b, RK.quiet v ≠ .new v' i b := fun v' i b e => by cases e
    have hqu := d.quiet j o v _ ho hk
    unfold okQuiet at hqu
    have hq0 := List.all_eq_true.1 hqu q (List.mem_range.2 (by have := I.qle; omega))
    have hcond : ((stF.louds.take q).all (fun l => !(bm (masks ops.toList) j l.1)) && (stF.louds.drop q).all (fun l => !(bm (masks ops.toList) l.1 j))) = true := by
      rw [Bool.and_eq_true, List.all_eq_true, List.all_eq_true]
      refine ⟨fun l hl => ?_, fun l hl => ?_⟩
      · obtain ⟨p, hpl⟩ := List.getElem?_of_mem hl
        rw [List.getElem?_take] at hpl
        split at hpl
        · next hpq =>
          cases hb : bm (masks ops.toList) j l.1 with
          | false => rfl
          | true =>
            have := bm_listed d.back I.clo _ ((I.lou p l hpl).2 hpq) hb
            rw [hj] at this
            cases this
        · cases hpl
      · obtain ⟨p, hpl⟩ := List.getElem?_of_mem hl
        rw [List.getElem?_drop] at hpl
        cases hb : bm (masks ops.toList) l.1 j with
        | false => rfl
        | true =>
          have := (I.lou _ l hpl).1 (bm_ready d.back I.clo ho hr hb)
          omega
    rw [hcond] at hq0
    simp only [Bool.not_true, Bool.false_or] at hq0
    split at hq0
    · next v' s' hev2 =>
      have hvv := sameA_eq hq0
      subst hvv
      have hop := oper_quiet (X := X) (call := call) hnew hloud hev2
      rw [oper_congr o heq] at hop
      obtain ⟨p1, p2⟩ := part_step d I ho hr
      refine oper_ok hc hX hop hok p1 I.eff.fresh hev fun E' w' hv e => ?_
      have hl := e.le I.eff.fresh
      refine hK q E' _ w' (inv_next (k := .quiet v) d I ho hr hk hl hv I.qle (lou_same t hnn hlo I hk fun v e => by cases e) I.nex (hunl e.ext) ?_)
      rw [pend_same t hnn hlo hk hkn]
      refine (p2 _ _ _ _ e).sub fun i p h => ?_
      exact (part_iff d I ho hr).2 h
    · cases hq0
end
end Go.Proofs.YtokbandookjdjaaGreat.Ev
