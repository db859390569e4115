/- A symbolic evaluator of the model's code: its operations are right (one by one, II). -/
import Derived.Test.YtokbandookjdjaaGreatEvO3
namespace Go.Proofs.YtokbandookjdjaaGreat.Ev
open Go
section
variable {P : Program} {o : Oper} {E : Emb} {w : World} {v : AV} {s s' : AS} {aa : List AV}
theorem good_emptySlice {t e : TypeId} {size : Nat} {z : Value} (hop : o.op = .buildSlice t 0 #[]) (hu : P.underlying t = some (.slice e)) (h1 : sizeB P e = some size) (h2 : zeroB P e = some z) (hs : HSim E s.heap w) (hf : Fresh E s.next) :
    Good P o E aa s w (.sl s.next 0 0 (some 0)) ⟨s.next + 1, (s.next, .cells [] e none) :: s.heap⟩ := by
  obtain ⟨i, hi, hsz, hz⟩ := info_of h1 h2
  obtain ⟨e1, e2⟩ := sl_new (E := E) (n := s.next) w 0 0
  refine ⟨_, w.alloc (.cells #[] e), _, ?_, Or.inl rfl, e2, new_ok hs hf (cs := []) rfl #[] rfl⟩
  rw [e1]
  simp [execOp, hop, Instr.buildSlice, run_underlying hu, sizeOf, typeInfo, hi, Instr.fill, newRow]
  have : (Array.range 0).map (fun _ => (default : Value)) = #[] := Array.eq_empty_of_size_eq_zero (by simp)
  rw [this]
theorem ev_ptr {x : Operand} {id off : Nat} (hx : evalA aa x = .ptr id off) : evE E aa x = .pointer (some ⟨blk E id, off, none⟩) := by unfold evE; rw [hx]; simp only [conc]
theorem ev_lit {x : Operand} {y : Value} (hx : evalA aa x = .lit y) : evE E aa x = y := by unfold evE; rw [hx]; rfl
def capA (E : Emb) (id : Nat) (c : Option Nat) : Nat := match c with | some c => c | none => kap E id
theorem conc_sl (E : Emb) (id off n : Nat) (c : Option Nat) : conc E (.sl id off n c) = .slice (some ⟨blk E id, off, none⟩) n (capA E id c) := by cases c <;> rfl
theorem ev_sl {x : Operand} {id off n : Nat} {c : Option Nat} (hx : evalA aa x = .sl id off n c) : evE E aa x = .slice (some ⟨blk E id, off, none⟩) n (capA E id c) := by unfold evE; rw [hx]; exact conc_sl E id off n c
theorem add_place (b off n : Nat) : (⟨b, off, none⟩ : Addr).add n = ⟨b, off + n, none⟩ := by
  unfold Addr.add
  split
  · next h => rw [h, Nat.add_zero]
  · rfl
theorem size_run {t : TypeId} {n : Nat} (h : sizeB P t = some n) (w : World) : (sizeOf t).run P w = .ok n w := by
  unfold sizeB at h
  cases hi : P.info? t with
  | none => rw [hi] at h; cases h
  | some i =>
    rw [hi] at h
    have h : i.size = n := by simpa using h
    simp [sizeOf, typeInfo, hi, h]
theorem good_fieldAddr {t : TypeId} {x : Operand} {f id off n : Nat} {fields : Array Field} {fd : Field} (hop : o.op = .fieldAddr t x f) (hx : evalA aa x = .ptr id off) (hu : P.underlying t = some (.struct fields)) (hfd : fields[f]? = some fd)
    (hn : sizeB P fd.type = some n) (hn0 : Nat.beq n 0 = false) (ha : okL E aa = true) (hs : HSim E s.heap w) (hf : Fresh E s.next) : Good P o E aa s w (.ptr id (off + fd.offset)) s := by
  have h0 : n ≠ 0 := fun e => by subst e; cases hn0
  have hok := okA_eval ha x
  rw [hx] at hok
  refine Good.pure ?_ hok hs hf
  have h1 := size_run hn w
  have h2 : (fieldPlace ⟨blk E id, off, none⟩ fd).run P w = .ok ⟨blk E id, off + fd.offset, none⟩ w := by
    unfold fieldPlace
    rw [Sem.run_bind, h1]
    simp [h0, add_place]
  simp [execOp, hop, ev_ptr hx, Instr.fieldAt, run_underlying hu, hfd, Instr.sureAddr, h2, conc]
theorem good_field {t : TypeId} {x : Operand} {f : Nat} {cs : List AV} {fields : Array Field} {fd : Field} (hop : o.op = .field t x f) (hx : evalA aa x = .agg cs) (hu : P.underlying t = some (.struct fields)) (hfd : fields[f]? = some fd)
    (hp : partA P fd.type cs fd.offset = some v) (ha : okL E aa = true) (hs : HSim E s.heap w) (hf : Fresh E s.next) : Good P o E aa s w v s := by
  have hok := okA_eval (E := E) ha x
  rw [hx] at hok
  obtain ⟨h1, h2⟩ := part_ok (P := P) (w := w) hp (show okL E cs = true from hok) []
  rw [List.append_nil] at h1
  refine Good.pure ?_ h2 hs hf
  have hx' : evE E aa x = .agg (concL E cs).toArray := by unfold evE; rw [hx]; simp only [conc]
  simp [execOp, hop, hx', Instr.field, run_underlying hu, hfd, asAgg, h1]
theorem good_indexSl {t e : TypeId} {x i : Operand} {id off len z : Nat} {c : Option Nat} {k : IntKind} {n : Int} (hop : o.op = .indexAddr t x i) (hx : evalA aa x = .sl id off len c) (hi : evalA aa i = .lit (.int k n)) (hu : P.underlying t = some (.slice e))
    (hz : sizeB P e = some z) (hc : (decide (0 ≤ n) && Nat.blt n.toNat len) = true) (ha : okL E aa = true) (hs : HSim E s.heap w) (hf : Fresh E s.next) : Good P o E aa s w (.ptr id (off + n.toNat * z)) s := by
  have hok := okA_eval (E := E) ha x
  rw [hx] at hok
  simp only [Bool.and_eq_true, decide_eq_true_eq] at hc
  have h2 : n.toNat < len := by
    have := hc.2
    unfold Nat.blt at this
    exact Nat.le_of_ble_eq_true this
  have hlt : 0 ≤ n ∧ n < (len : Int) := ⟨hc.1, by omega⟩
  refine Good.pure ?_ hok hs hf
  simp [execOp, hop, ev_sl hx, ev_lit hi, Instr.indexAt, asIntOf, run_underlying hu, hlt, size_run hz, add_place, conc]
theorem good_indexAr {t e : TypeId} {x i : Operand} {id off len z : Nat} {k : IntKind} {n : Int} (hop : o.op = .indexAddr t x i) (hx : evalA aa x = .ptr id off) (hi : evalA aa i = .lit (.int k n)) (hu : P.underlying t = some (.array len e))
    (hz : sizeB P e = some z) (hc : (decide (0 ≤ n) && Nat.blt n.toNat len) = true) (ha : okL E aa = true) (hs : HSim E s.heap w) (hf : Fresh E s.next) : Good P o E aa s w (.ptr id (off + n.toNat * z)) s := by
  have hok := okA_eval (E := E) ha x
  rw [hx] at hok
  simp only [Bool.and_eq_true, decide_eq_true_eq] at hc
  have h2 : n.toNat < len := by
    have := hc.2
    unfold Nat.blt at this
    exact Nat.le_of_ble_eq_true this
  have hlt : 0 ≤ n ∧ n < (len : Int) := ⟨hc.1, by omega⟩
  refine Good.pure ?_ hok hs hf
  simp [execOp, hop, ev_ptr hx, ev_lit hi, Instr.indexAt, asIntOf, Instr.sureAddr, run_underlying hu, hlt, size_run hz, add_place, conc]
theorem good_nilCheck {x : Operand} (hop : o.op = .nilCheck x) (hx : match evalA aa x with | .ptr .. | .sl .. | .mp _ | .fn .. => True | _ => False) (ha : okL E aa = true) (hs : HSim E s.heap w) (hf : Fresh E s.next) : Good P o E aa s w (evalA aa x) s := by
  refine Good.pure ?_ (okA_eval ha x) hs hf
  simp only [execOp, hop, evE]
  cases hv : evalA aa x <;> simp_all [conc]
theorem good_makeFunc {f : FuncId} {first captured : Array Operand} (hop : o.op = .makeFunc (.func f) first captured) (hfi : first.isEmpty = true) (ha : okL E aa = true) (hs : HSim E s.heap w) (hf : Fresh E s.next) : Good P o E aa s w (.fn f (captured.toList.map (evalA aa))) s := by
  have h0 : first = #[] := by simpa using hfi
  subst h0
  have hok : okL E (captured.toList.map (evalA aa)) = true := by
    rw [okL_iff]
    intro y hy
    obtain ⟨x, -, rfl⟩ := List.mem_map.1 hy
    exact okA_eval ha x
  refine Good.pure ?_ hok hs hf
  have e1 : captured.map (evE E aa) = (concL E (captured.toList.map (evalA aa))).toArray := by
    apply Array.ext'
    rw [Array.toList_map, concL_map, List.map_map]
    apply List.map_congr_left
    intro x _
    rfl
  simp only [execOp, hop, Instr.makeFunc, Sem.run_bind, Sem.run_pure, Result.andThen_ok, conc, e1, Array.map_empty]
theorem good_extract {x : Operand} {cs : List AV} {i : Nat} (hop : o.op = .extract x i) (hx : evalA aa x = .tup cs) (hv : cs[i]? = some v) (ha : okL E aa = true) (hs : HSim E s.heap w) (hf : Fresh E s.next) : Good P o E aa s w v s := by
  have hok := okA_eval (E := E) ha x
  rw [hx] at hok
  have hok : okL E cs = true := hok
  refine Good.pure ?_ (okL_get hok hv) hs hf
  have hx' : evE E aa x = .tuple (concL E cs).toArray := by unfold evE; rw [hx]; simp only [conc]
  have hg : (concL E cs).toArray[i]? = some (conc E v) := by rw [List.getElem?_toArray, concL_get, hv]; rfl
  simp only [execOp, hop, hx', Instr.extract, hg]
  rfl
theorem good_intBin {op : BinOp} {xt yt : TypeId} {x y : Operand} {k k' : IntKind} {a b : Int} {r : Value} (hop : o.op = .binOp op xt x y yt) (hx : evalA aa x = .lit (.int k a)) (hy : evalA aa y = .lit (.int k' b)) (hk : k = k') (hr : intBin op k a b = some r)
    (hs : HSim E s.heap w) (hf : Fresh E s.next) : Good P o E aa s w (.lit r) s := by
  subst hk
  refine Good.pure ?_ rfl hs hf
  have hg : (eqGuard op xt x y (.int k a) (.int k b)).run P w = .ok () w := by
    unfold eqGuard
    cases op <;> rfl
  simp only [execOp, hop, ev_lit hx, ev_lit hy, Sem.run_bind, hg, Result.andThen_ok]
  cases op <;> simp_all [intBin, binOp, Op.intArith, Op.intCmp, conc]
theorem eq_slNil {xt e : TypeId} {a : Addr} {n c m q : Nat} (hu : P.underlying xt = some (.slice e)) (w : World) : (Op.equal xt (.slice (some a) n c) (.slice none m q)).run P w = .ok false w := by
  unfold Op.equal Op.maxDepth Op.equalIn
  rw [Sem.run_bind, run_underlying hu]
  rfl
theorem eq_ptrNil {xt e : TypeId} {a : Addr} (hu : P.underlying xt = some (.pointer e)) (w : World) : (Op.equal xt (.pointer (some a)) (.pointer none)).run P w = .ok false w := by
  unfold Op.equal Op.maxDepth Op.equalIn
  rw [Sem.run_bind, run_underlying hu]
  rfl
theorem guard_sl {op : BinOp} {xt : TypeId} {x y : Operand} {a b : Option Addr} {n c m q : Nat} (w : World) : (eqGuard op xt x y (.slice a n c) (.slice b m q)).run P w = .ok () w := by
  unfold eqGuard
  cases op <;> rfl
theorem guard_ptr {op : BinOp} {xt : TypeId} {x y : Operand} {a b : Option Addr} (w : World) : (eqGuard op xt x y (.pointer a) (.pointer b)).run P w = .ok () w := by
  unfold eqGuard
  cases op <;> rfl
theorem good_nilSl {op : BinOp} {xt yt e : TypeId} {x y : Operand} {id off n m q : Nat} {c : Option Nat} (hop : o.op = .binOp op xt x y yt) (hx : evalA aa x = .sl id off n c) (hy : evalA aa y = .lit (.slice none m q)) (hu : P.underlying xt = some (.slice e)) (hr : nilEq op s = some (v, s'))
    (hs : HSim E s.heap w) (hf : Fresh E s.next) : Good P o E aa s w v s' := by
  cases op <;> simp only [nilEq, Option.some.injEq, Prod.mk.injEq, reduceCtorEq] at hr
  · obtain ⟨rfl, rfl⟩ := hr
    refine Good.pure ?_ rfl hs hf
    simp only [execOp, hop, ev_sl hx, ev_lit hy, Sem.run_bind, guard_sl, Result.andThen_ok, show binOp .eql xt (.slice (some ⟨blk E id, off, none⟩) n (capA E id c)) (.slice none m q) = (do pure (.bool (← Op.equal xt (.slice (some ⟨blk E id, off, none⟩) n (capA E id c)) (.slice none m q)))) from rfl, eq_slNil hu]
    rfl
  · obtain ⟨rfl, rfl⟩ := hr
    refine Good.pure ?_ rfl hs hf
    simp only [execOp, hop, ev_sl hx, ev_lit hy, Sem.run_bind, guard_sl, Result.andThen_ok, show binOp .neq xt (.slice (some ⟨blk E id, off, none⟩) n (capA E id c)) (.slice none m q) = (do pure (.bool (!(← Op.equal xt (.slice (some ⟨blk E id, off, none⟩) n (capA E id c)) (.slice none m q))))) from rfl, eq_slNil hu]
    rfl
theorem good_nilPtr {op : BinOp} {xt yt e : TypeId} {x y : Operand} {id off : Nat} (hop : o.op = .binOp op xt x y yt) (hx : evalA aa x = .ptr id off) (hy : evalA aa y = .lit (.pointer none)) (hu : P.underlying xt = some (.pointer e)) (hr : nilEq op s = some (v, s'))
    (hs : HSim E s.heap w) (hf : Fresh E s.next) : Good P o E aa s w v s' := by
  cases op <;> simp only [nilEq, Option.some.injEq, Prod.mk.injEq, reduceCtorEq] at hr
  · obtain ⟨rfl, rfl⟩ := hr
    refine Good.pure ?_ rfl hs hf
    simp only [execOp, hop, ev_ptr hx, ev_lit hy, Sem.run_bind, guard_ptr, Result.andThen_ok, show binOp .eql xt (.pointer (some ⟨blk E id, off, none⟩)) (.pointer none) = (do pure (.bool (← Op.equal xt (.pointer (some ⟨blk E id, off, none⟩)) (.pointer none)))) from rfl, eq_ptrNil hu]
    rfl
  · obtain ⟨rfl, rfl⟩ := hr
    refine Good.pure ?_ rfl hs hf
    simp only [execOp, hop, ev_ptr hx, ev_lit hy, Sem.run_bind, guard_ptr, Result.andThen_ok, show binOp .neq xt (.pointer (some ⟨blk E id, off, none⟩)) (.pointer none) = (do pure (.bool (!(← Op.equal xt (.pointer (some ⟨blk E id, off, none⟩)) (.pointer none))))) from rfl, eq_ptrNil hu]
    rfl
end
end Go.Proofs.YtokbandookjdjaaGreat.Ev
