/- A symbolic evaluator of the model's code: regions that draw their order: all of it. -/
import Derived.Test.YtokbandookjdjaaGreatEvD8
namespace Go.Proofs.YtokbandookjdjaaGreat.Ev
open Go
section
variable {P : Program} {X : Nat → Option Ext} {call : Answer} {ops : Array Oper} {aa0 : List AV} {s0 : AS} {E0 : Emb} {w0 : World} {st0 stF : St} {recs : Recs} {seq : Nat → St} {L : Nat → Bool} {q : Nat} {E : Emb} {a : Act} {w : World}
/-- all have been -/
theorem draw_done (t : Tr P X call ops (masks ops.toList) st0 recs stF seq) (ha0 : st0.aa = aa0) (hnn : st0.news = []) (hlo : st0.louds = []) (d : DF P ops (masks ops.toList) s0.next aa0.length recs stF) (I : DInv ops aa0 s0 E0 w0 recs stF L q E a w)
    (hall : ∀ i, i < ops.toList.length → L i = true) : ActR E stF.aa a ∧ Eff s0.next E0 s0.heap w0 stF.s.next E (F stF.news (fun x => !(stF.louds.any fun l => bm (masks ops.toList) x.1 l.1)) ++ stF.s.heap) w := by
  have hup := t.up hnn hlo ops.toList.length (Nat.le_refl _)
  rw [t.hn] at hup
  have hq : q = stF.louds.length := by
    rcases Nat.eq_or_lt_of_le I.qle with h | h
    · exact h
    · have hl := List.getElem?_eq_getElem h
      have := (I.lou q _ hl).1 (hall _ (hup.1 _ (List.mem_of_getElem? hl)).1)
      omega
  have hslot : ∀ u, a.tmps.getD u undef = conc E (getT stF.aa u) ∧ okA E (getT stF.aa u) = true := fun u => by
    obtain ⟨t1, t2⟩ := t.slot d.dist (fun i u hw => by rw [ha0]; exact d.dlt i u hw) u ops.toList.length (Nat.le_refl _)
    rw [t.hn] at t1 t2
    by_cases hw : ∃ i, Wr ops i u
    · obtain ⟨i, hw⟩ := hw
      have hi : i < ops.toList.length := by obtain ⟨o, ho, -⟩ := hw; exact len_of ho
      obtain ⟨k, x, hk, hv⟩ := t1 i hi hw
      rw [hv]
      exact I.wrt i u k x (hall i hi) hw hk
    · rw [t2 (fun i _ hwi => hw ⟨i, hwi⟩), ha0]
      exact I.unw u fun i _ hwi => hw ⟨i, hwi⟩
  have hlen : stF.aa.length = aa0.length := by
    have := t.len ops.toList.length (Nat.le_refl _)
    rw [t.hn, ha0] at this
    exact this
  refine ⟨⟨?_, I.defers, ?_⟩, ?_⟩
  · apply Array.ext
    · have h1 : (concL E stF.aa).toArray.size = a.tmps.size := by rw [List.size_toArray, concL_length, hlen, I.size]
      exact h1.symm
    · intro u h1 h2
      have h3 := (hslot u).1
      rw [Array.getD_eq_getD_getElem?, Array.getElem?_eq_getElem h1, Option.getD_some] at h3
      rw [h3, getT_eq]
      have h4 : u < stF.aa.length := by rw [hlen, ← I.size]; exact h1
      rw [List.getElem?_eq_getElem h4, Option.getD_some]
      have h5 : (concL E stF.aa)[u]? = some (conc E stF.aa[u]) := by rw [concL_get, List.getElem?_eq_getElem h4]; rfl
      have h6 := (List.getElem?_eq_some_iff.1 h5).2
      rw [← h6]
      simp
  · rw [okL_iff]
    intro x hx
    obtain ⟨u, hu⟩ := List.getElem?_of_mem hx
    have := (hslot u).2
    rw [getT_eq, hu] at this
    exact this
  · have he := I.eff
    have hst : stateAt stF.louds stF.s q = stF.s := by
      unfold stateAt
      rw [hq, List.getElem?_eq_none (Nat.le_refl _)]
    have hF : F stF.news (pendB (masks ops.toList) (stF.louds.take q) L) = F stF.news (fun x => !(stF.louds.any fun l => bm (masks ops.toList) x.1 l.1)) := F_congr fun x hx => by
      unfold pendB
      rw [hall _ (hup.2 x hx).1, hq, List.take_length, Bool.true_and]
    rw [hst, hF] at he
    exact he
theorem ready_nil {listed : Array Bool} (d : Back ops.toList) (h : Region.ready .any ops listed = []) (hs : listed.size = ops.size) : ∀ i, i < ops.toList.length → listed.getD i false = true := fun i => by
  induction i using Nat.strongRecOn with
  | _ i ih =>
    intro hi
    have ho := List.getElem?_eq_getElem hi
    have hi' : i < listed.size := by rw [hs, ← Array.length_toList]; exact hi
    cases hl : listed.getD i false with
    | true => rfl
    | false =>
      exfalso
      have hm : i ∈ Region.ready .any ops listed := mem_ready.2 ⟨by
        rw [Array.getD_eq_getD_getElem?, Array.getElem?_eq_getElem hi'] at hl ⊢
        exact hl, _, (by rw [← Array.getElem?_toList]; exact ho), fun e he hb => ih _ (d i _ ho e he hb) (by have := d i _ ho e he hb; omega)⟩
      rw [h] at hm
      cases hm
theorem listed_ins {listed : Array Bool} {j : Nat} (hj : j < listed.size) : (fun i => (listed.setIfInBounds j true).getD i false) = ins (fun i => listed.getD i false) j := by
  funext i
  by_cases e : i = j
  · subst e
    rw [ins_self, Array.getD_eq_getD_getElem?, Array.getElem?_setIfInBounds_self_of_lt hj]
    rfl
  · rw [ins_ne e, Array.getD_eq_getD_getElem?, Array.getElem?_setIfInBounds_ne (fun h => e h.symm), ← Array.getD_eq_getD_getElem?]
def openN (l : List Bool) : Nat := match l with | [] => 0 | b :: r => (if b then 0 else 1) + openN r
theorem openN_set : ∀ (l : List Bool) (j : Nat), l[j]? = some false → openN (l.set j true) + 1 = openN l
  | [], j, h => by simp at h
  | b :: r, 0, h => by
    cases h
    simp only [List.set_cons_zero, openN, Bool.false_eq_true, if_true, if_false]
    omega
  | b :: r, j + 1, h => by
    rw [List.getElem?_cons_succ] at h
    have := openN_set r j h
    simp only [List.set_cons_succ, openN]
    omega
theorem openN_zero : ∀ (l : List Bool) (j : Nat), openN l = 0 → l[j]? ≠ some false
  | [], j, _, h => by simp at h
  | b :: r, j, h0, h => by
    rw [openN] at h0
    cases j with
    | zero => cases h; simp at h0
    | succ j => exact openN_zero r j (by omega) h
theorem openN_replicate (n : Nat) : openN (List.replicate n false) = n := by
  induction n with
  | zero => rfl
  | succ n ih => rw [List.replicate_succ, openN, ih]; simp; omega
theorem draw_any (hc : CallOk P call) (hX : ExtOk P X) (t : Tr P X call ops (masks ops.toList) st0 recs stF seq) (ha0 : st0.aa = aa0) (hnn : st0.news = []) (hlo : st0.louds = []) (d : DF P ops (masks ops.toList) s0.next aa0.length recs stF) {Q : Exit → Act → World → Prop}
    (hQ : ∀ E a w, ActR E stF.aa a → Eff s0.next E0 s0.heap w0 stF.s.next E (F stF.news (fun x => !(stF.louds.any fun l => bm (masks ops.toList) x.1 l.1)) ++ stF.s.heap) w → Q .normal a w) :
    ∀ (fuel : Nat) (listed : Array Bool) (q : Nat) (E : Emb) (a : Act) (w : World), listed.size = ops.size → openN listed.toList = fuel → DInv ops aa0 s0 E0 w0 recs stF (fun i => listed.getD i false) q E a w → wpAny P .any ops Q fuel listed a w := by
  intro fuel
  induction fuel with
  | zero =>
    intro listed q E a w hs hf I
    have hall : ∀ i, i < ops.toList.length → listed.getD i false = true := fun i hi => by
      have hi' : i < listed.size := by rw [hs, ← Array.length_toList]; exact hi
      have h1 := openN_zero listed.toList i hf
      rw [Array.getElem?_toList, Array.getElem?_eq_getElem hi'] at h1
      rw [Array.getD_eq_getD_getElem?, Array.getElem?_eq_getElem hi', Option.getD_some]
      cases hb : listed[i] with
      | true => rfl
      | false => rw [hb] at h1; exact absurd rfl h1
    refine ⟨?_, ?_⟩
    · rw [List.eq_nil_iff_forall_not_mem]
      intro i hi
      obtain ⟨h0, o, ho, -⟩ := mem_ready.1 hi
      have hi2 : i < ops.toList.length := by rw [Array.length_toList]; exact (Array.getElem?_eq_some_iff.1 ho).1
      have hi' : i < listed.size := by rw [hs, ← Array.length_toList]; exact hi2
      have := hall i hi2
      rw [Array.getD_eq_getD_getElem?, Array.getElem?_eq_getElem hi'] at h0 this
      rw [Option.getD_some] at h0 this
      rw [h0] at this
      cases this
    · obtain ⟨h1, h2⟩ := draw_done t ha0 hnn hlo d I hall
      exact hQ E a w h1 h2
  | succ fuel ih =>
    intro listed q E a w hs hf I
    refine ⟨fun h => ?_, fun j hj => ?_⟩
    · obtain ⟨h1, h2⟩ := draw_done t ha0 hnn hlo d I (ready_nil d.back h hs)
      exact hQ E a w h1 h2
    · obtain ⟨h0, o, ho, hall⟩ := mem_ready.1 hj
      have hj2 : j < ops.size := (Array.getElem?_eq_some_iff.1 ho).1
      have hj' : j < listed.size := by rw [hs]; exact hj2
      rw [Array.getD_eq_getD_getElem?, Array.getElem?_eq_getElem hj', Option.getD_some] at h0
      have hL : listed.getD j false = false := by rw [Array.getD_eq_getD_getElem?, Array.getElem?_eq_getElem hj', Option.getD_some]; exact h0
      refine draw_step hc hX t ha0 hnn hlo d I (by rw [Array.getElem?_toList]; exact ho) hL hall fun q' E' a' w' I' => ?_
      refine ih _ q' E' a' w' (by rw [Array.size_setIfInBounds]; exact hs) ?_ ?_
      · have := openN_set listed.toList j (by rw [Array.getElem?_toList, Array.getElem?_eq_getElem hj', h0])
        rw [Array.toList_setIfInBounds]
        omega
      · rw [listed_ins hj']
        exact I'
theorem draw_ok (hm : P.follows .mixedOrders = true) (hc : CallOk P call) (hX : ExtOk P X) : DrawOk P X call := by
  intro id ops aa s aa' s' h E w a Q ha hs hf hQ
  unfold evDraw at h
  split at h
  · next recs st hrun =>
    cases hok : okD P ops (masks ops.toList) s.next aa.length recs st with
    | false => rw [hok] at h; cases h
    | true =>
      rw [hok] at h
      simp only [cond_true] at h
      cases h
      have d := okD_facts hok
      obtain ⟨seq, t⟩ := Tr.of hrun
      have h0 := (t.down ops.toList.length 0 (by omega)).2.2
      rw [t.h0] at h0
      dsimp only at h0
      rw [List.length_nil] at h0
      refine wp_region_any hm (draw_any (aa0 := aa) (s0 := s) (E0 := E) (w0 := w) hc hX t rfl rfl rfl d (fun E1 a1 w1 h1 h2 => hQ E1 a1 w1 h1 h2) ops.size _ 0 E a _ (by simp) ?_ ?_)
      · rw [Array.toList_replicate, openN_replicate]
      · have hL : ∀ i, (Array.replicate ops.size false).getD i false = false := fun i => by
          rw [Array.getD_eq_getD_getElem?, Array.getElem?_replicate]
          split <;> rfl
        refine ⟨Nat.zero_le _, fun j o _ hj => ?_, ha.defers, ?_, fun i t k x hi => ?_, fun u _ => ⟨ha.tmp u, okA_getT ha.ok u⟩, fun p l _ => ?_, Nat.le_refl _, fun x hx _ => hf _ (d.ids x hx).1, ?_⟩
        · rw [hL] at hj; cases hj
        · rw [ha.tmps, List.size_toArray, concL_length]
        · rw [hL] at hi; cases hi
        · rw [hL]; simp
        · have hF : F st.news (pendB (masks ops.toList) (st.louds.take 0) (fun i => (Array.replicate ops.size false).getD i false)) = [] := F_nil fun x _ => by
            unfold pendB
            dsimp only
            rw [hL]
            rfl
          rw [hF, ← h0]
          exact ⟨Nat.le_add_right _ _, fun _ _ => rfl, fun i hi => hf i (by dsimp only at hi; omega), rfl, rfl, rfl, Nat.le_refl _, fun _ _ _ => rfl, fun i o hi => Or.inl ⟨i, o, hi, rfl⟩, ⟨hs.obj, hs.inj⟩⟩
  · cases h
/-- every call that the evaluator answers, the model answers so -/
theorem evCall_ok {keep : Nat → Bool} (hm : P.follows .mixedOrders = true) (hN : NoName P) (hX : ExtOk P X) (n : Nat) : ∀ d : Nat, CallOk P (evCall P X keep n d)
  | 0 => fun f args s v s' h => by cases h
  | d + 1 => body_ok hN (evCall_ok hm hN hX n d) hX (draw_ok hm (evCall_ok hm hN hX n d) hX)
end
end Go.Proofs.YtokbandookjdjaaGreat.Ev
