/- A symbolic evaluator of the model's code: its operations are right (one by one, III). -/
import Derived.Test.YtokbandookjdjaaGreatEvO4
namespace Go.Proofs.YtokbandookjdjaaGreat.Ev
open Go
section
variable {P : Program} {o : Oper} {E : Emb} {w : World} {v : AV} {s s' : AS} {aa : List AV}
/-- a builtin's run -/
theorem exec_builtin {b : Builtin} {args : Array Operand} {ts : Array TypeId} {ev : Operand → Value} (hop : o.op = .call { callee := .builtin b, args, argTypes := ts }) :
    execOp ev o = builtin b ts o.type (args.map fun | .const _ => true | _ => false) (args.map ev) := by
  unfold execOp
  rw [hop]
  rfl
theorem good_lenSl {x : Operand} {t e : TypeId} {id off n : Nat} {c : Option Nat} (hop : o.op = .call { callee := .builtin .len, args := #[x], argTypes := #[t] }) (hx : evalA aa x = .sl id off n c) (hu : P.underlying t = some (.slice e)) (hs : HSim E s.heap w) (hf : Fresh E s.next) :
    Good P o E aa s w (.lit (goInt n)) s := by
  refine Good.pure ?_ rfl hs hf
  rw [exec_builtin hop]
  simp [builtin, Builtin.len_, run_underlying hu, ev_sl hx, conc]
theorem good_lenMap {x : Operand} {t a b : TypeId} {id clock : Nat} {es : Array MapEntry} (hop : o.op = .call { callee := .builtin .len, args := #[x], argTypes := #[t] }) (hx : evalA aa x = .mp id) (hu : P.underlying t = some (.map a b)) (hg : s.heap.get id = some (.map es clock)) (hs : HSim E s.heap w) (hf : Fresh E s.next) :
    Good P o E aa s w (.lit (goInt es.size)) s := by
  refine Good.pure ?_ rfl hs hf
  have hx' : evE E aa x = .map (some (blk E id)) := by unfold evE; rw [hx]; simp only [conc]
  have ho := (hs.obj id _ hg).2.2
  unfold objR at ho
  dsimp only at ho
  rw [exec_builtin hop]
  simp [builtin, Builtin.len_, run_underlying hu, hx', conc, getObj, Sem.run, ho]
theorem good_cap {x : Operand} {t e : TypeId} {id off n c : Nat} (hop : o.op = .call { callee := .builtin .cap, args := #[x], argTypes := #[t] }) (hx : evalA aa x = .sl id off n (some c)) (hu : P.underlying t = some (.slice e)) (hs : HSim E s.heap w) (hf : Fresh E s.next) :
    Good P o E aa s w (.lit (goInt c)) s := by
  refine Good.pure ?_ rfl hs hf
  rw [exec_builtin hop]
  simp [builtin, Builtin.cap_, run_underlying hu, ev_sl hx, conc, capA]
theorem good_makeInterface {t : TypeId} {x : Operand} {d : TypeDesc} (hop : o.op = .makeInterface t x) (hu : P.underlying t = some d) (hd : match d with | .interface _ => False | _ => True) (ha : okL E aa = true) (hs : HSim E s.heap w) (hf : Fresh E s.next) : Good P o E aa s w (.ifc t (evalA aa x)) s := by
  refine Good.pure ?_ (okA_eval ha x) hs hf
  simp only [execOp, hop, Instr.makeInterface, Sem.run_bind, run_underlying hu, Result.andThen_ok, conc]
  cases d <;> first | rfl | exact hd.elim
/-- a new block that is no row of cells -/
theorem new_obj {n : Nat} {h : Heap} (hs : HSim E h w) (hf : Fresh E n) {ao : AObj} {ob : Obj} (h1 : objR (upd E n (w.heap.size, 0)) ao 0 (some ob)) (h2 : okO (upd E n (w.heap.size, 0)) ao = true) :
    Eff n E h w (n + 1) (upd E n (w.heap.size, 0)) ((n, ao) :: h) (w.alloc ob) := eff_new hs hf rfl rfl rfl rfl h1 h2
theorem good_makeMap {t a b : TypeId} (hop : o.op = .makeMap t none) (_hu : P.underlying t = some (.map a b)) (hs : HSim E s.heap w) (hf : Fresh E s.next) : Good P o E aa s w (.mp s.next) ⟨s.next + 1, (s.next, .map #[] 0) :: s.heap⟩ := by
  obtain ⟨e1, -, e3⟩ := upd_same E s.next (w.heap.size, 0)
  refine ⟨_, w.alloc (.map #[] 0), _, ?_, Or.inl rfl, e3, new_obj hs hf rfl rfl⟩
  have : conc (upd E s.next (w.heap.size, 0)) (.mp s.next) = .map (some w.heap.size) := by simp only [conc, e1]
  rw [this]
  simp [execOp, hop, Instr.makeMap, newObj, Sem.run]
theorem getMap {id clock : Nat} {es : Array MapEntry} (hs : HSim E s.heap w) (hg : s.heap.get id = some (.map es clock)) : w.heap[blk E id]? = some (.map es clock) := by
  have ho := (hs.obj id _ hg).2.2
  unfold objR at ho
  dsimp only at ho
  exact ho
theorem good_lookupY {t key elem : TypeId} {x k : Operand} {ok : Bool} {id clock i : Nat} {kv y : Value} {u : Unit} {es : Array MapEntry} (hop : o.op = .lookup t x k ok) (hx : evalA aa x = .mp id) (hk : lits (evalA aa k) = some kv) (hu : P.underlying t = some (.map key elem)) (hg : s.heap.get id = some (.map es clock))
    (h1 : pureRun P (Instr.checkKey es.isEmpty 10000 key kv) = some u) (h2 : pureRun P (Instr.findKey key kv es.toList) = some (some (i, y))) (hs : HSim E s.heap w) (hf : Fresh E s.next) : Good P o E aa s w (.lit (if ok then .tuple #[y, .bool true] else y)) s := by
  refine Good.pure ?_ rfl hs hf
  have hx' : evE E aa x = .map (some (blk E id)) := by unfold evE; rw [hx]; simp only [conc]
  have hk' : evE E aa k = kv := (lits_conc E _ _ hk).1
  have hm := getMap hs hg
  simp [execOp, hop, hx', hk', Instr.lookup, run_underlying hu, getObj, Sem.run, hm, conc, pureRun_ok h1, pureRun_ok h2]
theorem good_lookupN {t key elem : TypeId} {x k : Operand} {ok : Bool} {id clock : Nat} {kv z : Value} {u : Unit} {es : Array MapEntry} (hop : o.op = .lookup t x k ok) (hx : evalA aa x = .mp id) (hk : lits (evalA aa k) = some kv) (hu : P.underlying t = some (.map key elem)) (hg : s.heap.get id = some (.map es clock))
    (h1 : pureRun P (Instr.checkKey es.isEmpty 10000 key kv) = some u) (h2 : pureRun P (Instr.findKey key kv es.toList) = some none) (hz : zeroB P elem = some z) (hs : HSim E s.heap w) (hf : Fresh E s.next) : Good P o E aa s w (.lit (if ok then .tuple #[z, .bool false] else z)) s := by
  refine Good.pure ?_ rfl hs hf
  have hx' : evE E aa x = .map (some (blk E id)) := by unfold evE; rw [hx]; simp only [conc]
  have hk' : evE E aa k = kv := (lits_conc E _ _ hk).1
  have hm := getMap hs hg
  simp [execOp, hop, hx', hk', Instr.lookup, run_underlying hu, getObj, Sem.run, hm, conc, pureRun_ok h1, pureRun_ok h2, zero_run hz]
theorem good_range {t a b : TypeId} {x : Operand} {id clock : Nat} {es : Array MapEntry} (hop : o.op = .range t x) (hx : evalA aa x = .mp id) (hu : P.underlying t = some (.map a b)) (hg : s.heap.get id = some (.map es clock)) (hs : HSim E s.heap w) (hf : Fresh E s.next) :
    Good P o E aa s w (.ptr s.next 0) ⟨s.next + 1, (s.next, .iter id clock) :: s.heap⟩ := by
  obtain ⟨e1, e2⟩ := ptr_new (E := E) (n := s.next) w
  have hm := getMap hs hg
  have hid := (hs.obj id _ hg).1
  have hle := (upd_le (hf _ (Nat.le_refl _)) (w.heap.size, 0)).blk hid
  have hx' : evE E aa x = .map (some (blk E id)) := by unfold evE; rw [hx]; simp only [conc]
  refine ⟨_, w.alloc (.mapIter (some (blk E id)) clock #[] clock), _, ?_, Or.inl rfl, e2, new_obj hs hf ?_ hle.2.2⟩
  · rw [e1]
    simp [execOp, hop, hx', Instr.range, run_underlying hu, getObj, newObj, Sem.run, hm]
  · unfold objR
    dsimp only
    rw [hle.1]
theorem good_next {x : Operand} {i m c clock : Nat} {es : Array MapEntry} (hop : o.op = .next x false) (hx : evalA aa x = .ptr i 0) (hg : s.heap.get i = some (.iter m c)) (hg2 : s.heap.get m = some (.map es clock)) (he : es.isEmpty = true) (hs : HSim E s.heap w) (hf : Fresh E s.next) :
    Good P o E aa s w (.lit (.tuple #[.bool false])) s := by
  refine Good.pure ?_ rfl hs hf
  have hm := getMap hs hg2
  have ho := (hs.obj i _ hg).2.2
  unfold objR at ho
  dsimp only at ho
  have h0 : es = #[] := by simpa using he
  subst h0
  simp [execOp, hop, ev_ptr hx, Instr.next, getObj, Sem.run, ho, hm, choose, Question.forced, conc]
theorem good_mapUpdate {t key elem : TypeId} {x k y : Operand} {id clock : Nat} {kv vv : Value} {u : Unit} {es : Array MapEntry} (hop : o.op = .mapUpdate t x k y) (hx : evalA aa x = .mp id) (hk : lits (evalA aa k) = some kv) (hy : lits (evalA aa y) = some vv) (hu : P.underlying t = some (.map key elem))
    (hg : s.heap.get id = some (.map es clock)) (h1 : pureRun P (Instr.checkKey false 10000 key kv) = some u) (h2 : pureRun P (Instr.findKey key kv es.toList) = some none) (hs : HSim E s.heap w) (hf : Fresh E s.next) :
    Good P o E aa s w (.lit undef) ⟨s.next, s.heap.put id (.map (es.push { key := kv, val := vv, born := clock }) (clock + 1))⟩ := by
  have hx' : evE E aa x = .map (some (blk E id)) := by unfold evE; rw [hx]; simp only [conc]
  have hk' : evE E aa k = kv := (lits_conc E _ _ hk).1
  have hy' : evE E aa y = vv := (lits_conc E _ _ hy).1
  have hm := getMap hs hg
  have hlt := hs.lt hg
  refine ⟨E, { w with heap := w.heap.setIfInBounds (blk E id) (.map (es.push { key := kv, val := vv, born := clock }) (clock + 1)) }, .skip, ?_, Or.inr ⟨rfl, rfl⟩, rfl, ?_⟩
  · simp [execOp, hop, hx', hk', hy', Instr.mapUpdate, run_underlying hu, getObj, setObj, Sem.run, hm, pureRun_ok h1, pureRun_ok h2]
  · refine eff_put hs hf hg rfl rfl rfl (by simp) (fun c hc => ?_) ?_ rfl
    · show (w.heap.setIfInBounds _ _)[c]? = _
      rw [Array.getElem?_setIfInBounds_ne (fun e => hc e.symm)]
    · show objR E _ _ (w.heap.setIfInBounds _ _)[blk E id]?
      rw [Array.getElem?_setIfInBounds_self_of_lt hlt]
      rfl
end
end Go.Proofs.YtokbandookjdjaaGreat.Ev
