/- A symbolic evaluator of the model's code: regions that draw their order: one operation is walked. -/
import Derived.Test.YtokbandookjdjaaGreatEvD6
namespace Go.Proofs.YtokbandookjdjaaGreat.Ev
open Go
section
variable {P : Program} {X : Nat → Option Ext} {call : Answer} {ops : Array Oper} {aa0 : List AV} {s0 : AS} {E0 : Emb} {w0 : World} {st0 stF : St} {recs : Recs} {seq : Nat → St} {L : Nat → Bool} {q j : Nat} {E : Emb} {a : Act} {w : World} {o : Oper}
theorem F_append (n1 n2 : News) (p : Nat × Nat × AObj → Bool) : F (n1 ++ n2) p = F n1 p ++ F n2 p := by
  unfold F
  rw [List.filter_append, List.map_append]
theorem F_nil {n : News} {p : Nat × Nat × AObj → Bool} (h : ∀ x ∈ n, p x = false) : F n p = [] := by
  unfold F
  have : n.filter p = [] := List.filter_eq_nil_iff.2 fun x hx h2 => by rw [h x hx] at h2; cases h2
  rw [this]
  rfl
theorem reads_op {u : Nat} (h : Operand.tmp u ∈ o.op.operands) : readsT ops o u = true := by
  unfold readsT
  rw [Bool.or_eq_true]
  refine Or.inl ?_
  rw [List.any_eq_true]
  exact ⟨.tmp u, Array.mem_toList_iff.2 h, Nat.beq_refl u⟩
theorem reads_guard {g u : Nat} {b : Bool} (h : o.guard = some (g, b)) (h2 : (ops[g]?).bind (·.dst) = some u) : readsT ops o u = true := by
  unfold readsT
  rw [Bool.or_eq_true]
  refine Or.inr ?_
  rw [h]
  dsimp only
  rw [h2]
  exact Nat.beq_refl u
/-- whoever is loud is no one else -/
theorem rec_news (t : Tr P X call ops (masks ops.toList) st0 recs stF seq) (hn : st0.news = []) (hlo : st0.louds = []) {x : Nat × Nat × AObj} (hx : x ∈ stF.news) : ∃ v b, recs[x.1]? = some (.new v x.2.1 x.2.2, b) := by
  have := (t.up hn hlo ops.toList.length (Nat.le_refl _)).2
  rw [t.hn] at this
  exact (this x hx).2
theorem rec_louds (t : Tr P X call ops (masks ops.toList) st0 recs stF seq) (hn : st0.news = []) (hlo : st0.louds = []) {l : Nat × AS} (hx : l ∈ stF.louds) : ∃ v b, recs[l.1]? = some (.loud v, b) := by
  have := (t.up hn hlo ops.toList.length (Nat.le_refl _)).1
  rw [t.hn] at this
  exact (this l hx).2
/-- j is not loud: the louds stand as they stood -/
theorem lou_same (t : Tr P X call ops (masks ops.toList) st0 recs stF seq) (hn : st0.news = []) (hlo : st0.louds = []) (I : DInv ops aa0 s0 E0 w0 recs stF L q E a w) {k : RK} {x : List AV} (hk : recs[j]? = some (k, x)) (hkl : ∀ v, k ≠ .loud v) :
    ∀ (p : Nat) (l : Nat × AS), stF.louds[p]? = some l → (ins L j l.1 = true ↔ p < q) := fun p l hl => by
  have hne : l.1 ≠ j := fun e => by
    obtain ⟨v, b, h⟩ := rec_louds t hn hlo (List.mem_of_getElem? hl)
    rw [e, hk] at h
    cases h
    exact hkl v rfl
  rw [ins_ne hne]
  exact I.lou p l hl
theorem unl_same (t : Tr P X call ops (masks ops.toList) st0 recs stF seq) (hn : st0.news = []) (hlo : st0.louds = []) {k : RK} {x : List AV} (hk : recs[j]? = some (k, x)) (hkn : ∀ v i b, k ≠ .new v i b) {y : Nat × Nat × AObj} (hy : y ∈ stF.news) : y.1 ≠ j := fun e => by
  obtain ⟨v, b, h⟩ := rec_news t hn hlo hy
  rw [e, hk] at h
  cases h
  exact hkn _ _ _ rfl
/-- j is not one that makes a block: the news stand as they stood -/
theorem pend_same (t : Tr P X call ops (masks ops.toList) st0 recs stF seq) (hn : st0.news = []) (hlo : st0.louds = []) {k : RK} {x : List AV} (hk : recs[j]? = some (k, x)) (hkn : ∀ v i b, k ≠ .new v i b) (louds : Louds) : F stF.news (pendB (masks ops.toList) louds (ins L j)) = F stF.news (pendB (masks ops.toList) louds L) :=
  F_congr fun y hy => by unfold pendB; rw [ins_ne (unl_same t hn hlo hk hkn hy)]
theorem oper_quiet (hn : isNewOp o.op = false) (hl : isLoud o.op = false) {aa : List AV} {s s' : AS} {v : AV} (h : evOp P s aa o = some (v, s')) : evOper P X call o aa s = .ok (v, s) := by
  have hs := quiet_same hn hl h
  subst hs
  unfold evOper
  split
  · next f args ts hop =>
    rw [hop] at hl
    cases hl
  · rw [h]
end
end Go.Proofs.YtokbandookjdjaaGreat.Ev
