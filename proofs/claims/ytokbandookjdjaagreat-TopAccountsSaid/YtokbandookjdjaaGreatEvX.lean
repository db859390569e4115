/- A symbolic evaluator of the model's code: functions without a body; an operation's weakest precondition. -/
import Derived.Test.YtokbandookjdjaaGreatEvO9
import Derived.Laws.Externs
import Derived.Lib.ReflectliteSlice
namespace Go.Proofs.YtokbandookjdjaaGreat.Ev
open Go
/-- what the model does at a function without a body -/
def ExtRun (P : Program) (f : FuncId) : Ext → Prop
  | .valueOf => ∀ args w, (callFunc f args).run P w = ((Extern.ReflectliteValue.unpack (args.getD 0 (.tuple #[]))).run P w).andThen fun v w' => .ok (.value v) w'
  | .swapper g => ∀ (t e : TypeId) (i ie : TypeInfo), P.info? t = some i → i.desc = .slice e → P.info? e = some ie → ∀ ke, (∀ w, (Extern.Rtype.kind e).run P w = .ok ke w) → ∀ p n c, Lib.swapperK n ie ke = 5 → ∀ w, (callFunc f #[.iface t (.slice p n c)]).run P w = .ok (.value (.func (.func g) #[] #[.slice p n c, typeHandle P e])) w
  | .valueLen => ∀ (t e : TypeId) (i : TypeInfo), P.info? t = some i → i.desc = .slice e → P.packed t = false → ∀ (a : Addr) (p : Option Addr) (n c : Nat) (w : World), w.cell? a = some (.slice p n c) → (callFunc f #[.agg #[typeHandle P t, .pointer (some a), .int .u64 151]]).run P w = .ok (.value (.int .i64 n)) w
  | .swap => ∀ args w, (callFunc f args).run P w = ((Extern.ReflectliteSwapper.swap true args).run P w).andThen fun v w' => .ok (.value v) w'
def ExtOk (P : Program) (X : Nat → Option Ext) : Prop := ∀ f k, X f = some k → ExtRun P f k
section
variable {P : Program} {o : Oper} {E : Emb} {w : World} {v : AV} {s s' : AS} {aa : List AV}
theorem writeL_one {cs : List AV} {off : Nat} {x : AV} (h : off < cs.length) : writeL cs off [x] = cs.set off x := by
  unfold writeL
  rw [List.set_eq_take_append_cons_drop, if_pos h]
  simp
theorem ext_ok {f : FuncId} {k : Ext} {args : List AV} (h : evExt P k s args = some (v, s')) (hx : ExtRun P f k) (ha : okL E args = true) (hs : HSim E s.heap w) (hf : Fresh E s.next) :
    ∃ E' w', (callFunc f (concL E args).toArray).run P w = .ok (.value (conc E' v)) w' ∧ okA E' v = true ∧ Eff s.next E s.heap w s'.next E' s'.heap w' := by
  unfold evExt at h
  split at h
  · next t id off n c =>
    split at h
    · next i hi =>
      split at h
      · next e hd =>
        cases h
        have hok : okL E [AV.sl id off n c] = true := by
          have := (okL_iff E _).1 ha _ (List.mem_singleton.2 rfl)
          rw [okA] at this
          rw [okL, okL, this]
          rfl
        obtain ⟨e1, e2⟩ := ptr_new (E := E) (n := s.next) w
        refine ⟨upd E s.next (w.heap.size, 0), _, ?_, ?_, new_ok hs hf hok _ rfl⟩
        · rw [hx]
          have hr := Lib.run_valueOf_slice (P := P) t e i hi hd (some ⟨blk E id, off, none⟩) n (capA E id c) w
          have harg : (concL E [AV.ifc t (.sl id off n c)]).toArray.getD 0 (.tuple #[]) = .iface t (.slice (some ⟨blk E id, off, none⟩) n (capA E id c)) := by
            rw [← conc_sl]
            simp [concL, conc]
          rw [harg, hr]
          simp only [Result.andThen_ok, conc, concL]
          obtain ⟨u1, -, -⟩ := upd_same E s.next (w.heap.size, 0)
          rw [u1]
          cases c <;> rfl
        · rw [okA, okL, okL, okL, okL, e2]
          rfl
      · cases h
    · cases h
  · next g t id off n c =>
    split at h
    · next i hi =>
      split at h
      · next e hd =>
        split at h
        · next ie ke hie hke =>
          obtain ⟨hc, e1⟩ := cond_some h
          cases e1
          simp only [Bool.and_eq_true, Bool.not_eq_true'] at hc
          obtain ⟨⟨c1, c2⟩, c3⟩ := hc
          have c1 := Nat.le_of_ble_eq_true c1
          have c3 := Nat.eq_of_beq_eq_true c3
          have hK : Lib.swapperK n ie ke = 5 := by
            unfold Lib.swapperK
            have n0 : (n == 0) = false := by simp; omega
            have n1 : (n == 1) = false := by simp; omega
            simp [n0, n1, c2, c3]
          have hr := hx t e i ie hi hd hie ke (fun w => pureRun_ok hke w) (some ⟨blk E id, off, none⟩) n (capA E id c) hK w
          have hok : okA E (.sl id off n c) = true := by
            have := (okL_iff E _).1 ha _ (List.mem_singleton.2 rfl)
            rw [okA] at this
            exact this
          refine ⟨E, w, ?_, ?_, Eff.refl hs hf⟩
          · have harg : (concL E [AV.ifc t (.sl id off n c)]).toArray = #[.iface t (.slice (some ⟨blk E id, off, none⟩) n (capA E id c))] := by
              rw [← conc_sl]
              simp [concL, conc]
            rw [harg, hr]
            simp only [conc, concL]
            cases c <;> rfl
          · rw [okA, okL, okL, okL, hok]
            rfl
        · cases h
      · cases h
    · cases h
  · next hb t a =>
    split at h
    · next i id off n c ty hi hg =>
      split at h
      · next e hd =>
        obtain ⟨hc, e1⟩ := cond_some h
        cases e1
        simp only [Bool.and_eq_true, Bool.not_eq_true'] at hc
        obtain ⟨c1, c2⟩ := hc
        have c1 := Nat.eq_of_beq_eq_true c1
        subst c1
        have hc2 := (⟨rfl, c2⟩ : P.globals.size = P.globals.size ∧ P.packed t = false)
        have hrow := (hs.obj a _ hg).2.2
        unfold objR at hrow
        dsimp only at hrow
        obtain ⟨hb, hpk⟩ := hc2
        have hcell : w.cell? ⟨blk E a, 0, none⟩ = some (.slice (some ⟨blk E id, off, none⟩) n (capA E id c)) := by
          rw [cell_of_row _ _ _ _ _ _ hrow, ← conc_sl]
          rfl
        have hr := hx t e i hi hd hpk ⟨blk E a, 0, none⟩ (some ⟨blk E id, off, none⟩) n (capA E id c) w hcell
        refine ⟨E, w, ?_, rfl, Eff.refl hs hf⟩
        have harg : (concL E [AV.agg [.lit (.pointer (some ⟨P.globals.size, t, none⟩)), .ptr a 0, .lit (.int .u64 151)]]).toArray = #[.agg #[typeHandle P t, .pointer (some ⟨blk E a, 0, none⟩), .int .u64 151]] := by
          simp [concL, conc, typeHandle]
        rw [harg, hr]
        rfl
      · cases h
    · cases h
  · next i j id off n c hb e =>
    split at h
    · next ie cs ty gz hie hag hg =>
      split at h
      · next x y hcx hcy =>
        obtain ⟨hc, e1⟩ := cond_some h
        cases e1
        simp only [Bool.and_eq_true, decide_eq_true_eq] at hc
        obtain ⟨⟨⟨⟨⟨⟨⟨c1, c2⟩, c3⟩, c4⟩, c5⟩, c6⟩, c7⟩, c8⟩ := hc
        have c1 := Nat.eq_of_beq_eq_true c1
        subst c1
        have c2 := Nat.eq_of_beq_eq_true c2
        have c5 := blt_of c5
        have c6 := blt_of c6
        have hi : (i.toNat : Int) = i := Int.toNat_of_nonneg c3
        have hj : (j.toNat : Int) = j := Int.toNat_of_nonneg c4
        obtain ⟨ext, g1, -, -, g4, -⟩ := hs.row hg
        have lx := (List.getElem?_eq_some_iff.1 hcx).1
        have ly := (List.getElem?_eq_some_iff.1 hcy).1
        have hcell : ∀ (q : Nat) (z : AV), cs[q]? = some z → w.cell? ⟨blk E id, q, none⟩ = some (conc E z) := fun q z hz => by
          rw [cell_of_row _ _ _ _ _ _ g1, List.getElem?_toArray, List.getElem?_append_left (by rw [concL_length]; exact (List.getElem?_eq_some_iff.1 hz).1), concL_get, hz]
          rfl
        have hagg : ∀ w, (isAgg e).run P w = .ok false w := fun w => by
          unfold isAggB at hag
          cases hu : P.underlying e with
          | none => rw [hu] at hag; cases hag
          | some d =>
            unfold isAgg
            rw [Sem.run_bind, run_underlying hu w]
            rw [hu] at hag
            cases d <;> simp_all
        have hr := Lib.run_swap_one (P := P) true e ie hie c2 hagg (blk E id) off n (capA E id c) i.toNat j.toNat c5 c6 (conc E x) (conc E y) (oneA_cell c7) (oneA_cell c8) w (hcell _ x hcx) (hcell _ y hcy) (frozen_of_row _ _ _ _ _ g1) (frozen_of_row _ _ _ _ _ g1)
        rw [hi, hj] at hr
        have hox := okL_get g4 hcx
        have hoy := okL_get g4 hcy
        have f1 := eff_write (vs := [y]) (off := off + i.toNat) hs hf hg (by simp; omega) (by rw [okL, hoy]; rfl)
        have hg2 : (s.heap.put id (.cells (writeL cs (off + i.toNat) [y]) ty gz)).get id = some (.cells (writeL cs (off + i.toNat) [y]) ty gz) := get_put_same _ _ _
        have f2 := eff_write (vs := [x]) (off := off + j.toNat) f1.sim f1.fresh hg2 (by rw [writeL_length (by simp; omega)]; simp; omega) (by rw [okL, hox]; rfl)
        have f3 := f1.trans f2
        have hpp : ∀ (h : Heap) (i : Nat) (a b : AObj), (h.put i a).put i b = h.put i b := fun h i a b => by
          induction h with
          | nil => rw [heap_put_nil, heap_put_cons]; simp only [Nat.beq_refl, cond_true]; rfl
          | cons p r ih =>
            rw [heap_put_cons, heap_put_cons]
            cases hb : Nat.beq p.1 i with
            | true => simp only [cond_true]; rw [heap_put_cons]; simp only [Nat.beq_refl, cond_true]
            | false => simp only [cond_false]; rw [heap_put_cons, hb, cond_false, ih]
        rw [hpp] at f3
        refine ⟨E, _, ?_, rfl, f3⟩
        rw [hx]
        have harg : (concL E [AV.lit (.int .i64 i), .lit (.int .i64 j), .sl id off n c, .lit (.pointer (some ⟨P.globals.size, e, none⟩))]).toArray = #[.int .i64 i, .int .i64 j, .slice (some ⟨blk E id, off, none⟩) n (capA E id c), typeHandle P e] := by
          simp only [concL, conc_sl]
          rfl
        rw [harg, hr]
        rfl
      · cases h
    · cases h
  · cases h
end
end Go.Proofs.YtokbandookjdjaaGreat.Ev
