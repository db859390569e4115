/- A symbolic evaluator of the model's code: regions that draw their order: operations that make a block; quiet ones. -/
import Derived.Test.YtokbandookjdjaaGreatEvD2
namespace Go.Proofs.YtokbandookjdjaaGreat.Ev
open Go
section
variable {P : Program} {o : Oper} {E : Emb} {w : World} {v : AV} {s s' : AS} {aa : List AV}
/-- what an operation that makes a block does, whatever else there is -/
def NewRun (P : Program) (o : Oper) (ev : Operand → Value) (E : Emb) (w : World) (id : Nat) (v : AV) (ob : AObj) : Prop :=
  ∃ c, (execOp ev o).run P w = .ok (.value (conc (upd E id (w.heap.size, 0)) v)) (w.alloc c) ∧ okA (upd E id (w.heap.size, 0)) v = true ∧ objR (upd E id (w.heap.size, 0)) ob 0 (some c) ∧ okO (upd E id (w.heap.size, 0)) ob = true
theorem objR_cells {cs : List AV} {ty : TypeId} {arr : Array Value} {id : Nat} (hE : E id = none) (hc : okL E cs = true) (ha : arr = (concL E cs).toArray) (w : World) : objR (upd E id (w.heap.size, 0)) (.cells cs ty none) 0 (some (.cells arr ty)) ∧ okO (upd E id (w.heap.size, 0)) (.cells cs ty none) = true := by
  have h2 := concL_le (upd_le hE (w.heap.size, 0)) cs hc
  refine ⟨?_, h2.2⟩
  unfold objR
  dsimp only
  rw [h2.1, ha]
theorem new_run {id sx : Nat} {ob : AObj} (hn : isNewOp o.op = true) (h : evOp P ⟨id, []⟩ aa o = some (v, ⟨sx, [(id, ob)]⟩)) (ha : okL E aa = true) (hE : E id = none) : NewRun P o (evE E aa) E w id v ob := by
  unfold evOp at h
  split at h
  · next r hr =>
    cases h
    obtain ⟨p1, p2⟩ := ptr_new (E := E) (n := id) w
    unfold evOwn at hr
    split at hr
    all_goals first
      | (exfalso; rename_i hop; rw [hop] at hn; cases hn; done)
      | skip
    · next t hop =>
      unfold evAlloc at hr
      split at hr
      · next z hz =>
        cases hr
        obtain ⟨o1, o2⟩ := objR_cells (ty := t) hE (okL_lit E z.cells.toList) (lit_cells E z) w
        refine ⟨.cells z.cells t, ?_, p2, o1, o2⟩
        rw [p1]
        simp [execOp, hop, Instr.alloc, zero_run hz, newVar, newRow]
      · cases hr
    · next t x hop =>
      cases hr
      obtain ⟨c1, c2⟩ := cells_conc E (evalA aa x)
      obtain ⟨o1, o2⟩ := objR_cells (ty := t) hE (c2 (okA_eval ha x)) c1 w
      refine ⟨.cells (conc E (evalA aa x)).cells t, ?_, p2, o1, o2⟩
      rw [p1]
      simp [execOp, hop, Instr.box, newVar, newRow, evE]
    · next t len parts hop =>
      unfold evBuildSlice at hr
      split at hr
      · next e hu =>
        split at hr
        · next size z h1 h2 =>
          obtain ⟨i, hi, hsz, hz⟩ := info_of h1 h2
          cases hc0 : (Nat.beq len 0 && parts.isEmpty) with
          | true =>
            rw [hc0] at hr
            cases hr
            rw [Bool.and_eq_true] at hc0
            have e1 := Nat.eq_of_beq_eq_true hc0.1
            have e2 : parts = #[] := by simpa using hc0.2
            subst e1 e2
            obtain ⟨q1, q2⟩ := sl_new (E := E) (n := id) w 0 0
            obtain ⟨o1, o2⟩ := objR_cells (ty := e) (cs := []) (arr := #[]) hE rfl rfl w
            refine ⟨.cells #[] e, ?_, q2, o1, o2⟩
            rw [q1]
            simp [execOp, hop, Instr.buildSlice, run_underlying hu, sizeOf, typeInfo, hi, Instr.fill, newRow]
            have : (Array.range 0).map (fun _ => (default : Value)) = #[] := Array.eq_empty_of_size_eq_zero (by simp)
            rw [this]
          | false =>
            rw [hc0] at hr
            simp only [cond_false] at hr
            cases hc : (Nat.ble (len * size) 65536 && Nat.ble 1 (len * size) && Nat.beq z.cells.size size) with
            | false => rw [hc] at hr; cases hr
            | true =>
              rw [hc] at hr
              simp only [cond_true] at hr
              split at hr
              · next cs hfl =>
                cases hr
                simp only [Bool.and_eq_true] at hc
                obtain ⟨⟨c1, c2⟩, c3⟩ := hc
                have c1 := Nat.le_of_ble_eq_true c1
                have c2 := Nat.le_of_ble_eq_true c2
                have c3 := Nat.eq_of_beq_eq_true c3
                obtain ⟨f1, f2⟩ := fill_ok (fun _ => rfl) _ _ _ (flat_ok E len z.cells.toList) (parts_ok ha parts) hfl
                have hpos : 1 ≤ size := by
                  rcases Nat.eq_zero_or_pos size with e | e
                  · rw [e] at c2; omega
                  · exact e
                have hm := madeCells_eq (z := z.cells) (by omega) len
                rw [← parts_map, flat_conc, ← hm] at f1
                unfold madeCells at f1
                rw [c3] at f1
                have hr2 := run_buildSlice (P := P) w t e len (parts.map fun (i, x) => (i, evE E aa x)) _ i z hu hi hz (by rw [hsz]; omega) (by rw [hsz]; omega) (by rw [hsz, c3]; exact f1)
                obtain ⟨q1, q2⟩ := sl_new (E := E) (n := id) w len len
                obtain ⟨o1, o2⟩ := objR_cells (ty := e) hE f2 rfl w
                refine ⟨_, ?_, q2, o1, o2⟩
                rw [q1]
                simp only [execOp, hop, Sem.run_bind, hr2, Result.andThen_ok]
                rfl
              · cases hr
        · cases hr
      · cases hr
    · next t l c hop =>
      unfold evMakeSlice at hr
      split at hr
      · next e k n k' m hu hl hc =>
        split at hr
        · next i hi =>
          split at hr
          · next z hz =>
            obtain ⟨hcc, e1⟩ := cond_some hr
            cases e1
            simp only [Bool.and_eq_true, decide_eq_true_eq] at hcc
            obtain ⟨⟨⟨⟨h0, c2⟩, hb⟩, h1⟩, h2⟩ := hcc
            subst c2
            have hb := Nat.le_of_ble_eq_true hb
            have h1 := Nat.eq_of_beq_eq_true h1
            have h2 := Nat.le_of_ble_eq_true h2
            have hnn : (n.toNat : Int) = n := Int.toNat_of_nonneg h0
            have hbi : (i.bytes : Int) * n ≤ 281474976710656 := by
              rw [← hnn, ← Int.natCast_mul, Nat.mul_comm]
              omega
            have hr2 := run_make (P := P) w t e i z hu hi hz k k' n n h0 (Int.le_refl _) hbi (by omega)
            have hm := madeCells_eq (z := z.cells) (by omega) n.toNat
            rw [h1] at hm
            rw [hm] at hr2
            obtain ⟨q1, q2⟩ := sl_new (E := E) (n := id) w n.toNat n.toNat
            obtain ⟨o1, o2⟩ := objR_cells (ty := e) (arr := ((List.replicate n.toNat z.cells.toList).flatten).toArray) hE (flat_ok E n.toNat z.cells.toList) (by rw [flat_conc]) w
            refine ⟨_, ?_, q2, o1, o2⟩
            rw [q1]
            simp only [execOp, hop, ev_lit hl, ev_lit hc, Sem.run_bind, hr2, Result.andThen_ok]
            rfl
          · cases hr
        · cases hr
      · cases hr
    · next t r hop =>
      unfold evMakeMap at hr
      split at hr
      · next hu =>
        cases hr
        obtain ⟨e1, -, e3⟩ := upd_same E id (w.heap.size, 0)
        refine ⟨.map #[] 0, ?_, e3, rfl, rfl⟩
        have : conc (upd E id (w.heap.size, 0)) (.mp id) = .map (some w.heap.size) := by simp only [conc, e1]
        rw [this]
        simp [execOp, hop, Instr.makeMap, newObj, Sem.run]
      · cases hr
    · cases hr
  · split at h
    · cases h
    · cases h
/-- a quiet operation leaves the state as it was -/
theorem quiet_same (hn : isNewOp o.op = false) (hl : isLoud o.op = false) (h : evOp P s aa o = some (v, s')) : s' = s := by
  unfold evOp at h
  split at h
  · next r hr =>
    cases h
    unfold evOwn at hr
    split at hr
    all_goals first
      | (exfalso; rename_i hop; rw [hop] at hn; cases hn; done)
      | (exfalso; rename_i hop; rw [hop] at hl; cases hl; done)
      | (cases hr; rfl)
      | skip
    · unfold evPick at hr; split at hr <;> cases hr; rfl
    · unfold evLoad at hr; (repeat' split at hr) <;> cases hr; rfl
    · unfold evBuild at hr; (repeat' split at hr) <;> cases hr <;> rfl
    · unfold evFieldAddr at hr
      (repeat' split at hr) <;> first | (cases hr; done) | skip
      next n _ => cases hb : Nat.beq n 0 <;> rw [hb] at hr <;> cases hr; rfl
    · unfold evField at hr; (repeat' split at hr) <;> cases hr; rfl
    · unfold evIndexAddr at hr
      (repeat' split at hr) <;> first | (cases hr; done) | (obtain ⟨-, e⟩ := cond_some hr; cases e; rfl)
    · unfold evSlice at hr
      (repeat' split at hr) <;> first | (cases hr; done) | (obtain ⟨-, e⟩ := cond_some hr; cases e; rfl)
    · unfold evSlice3 at hr
      (repeat' split at hr) <;> first | (cases hr; done) | (obtain ⟨-, e⟩ := cond_some hr; cases e; rfl)
    · unfold evNilCheck at hr; split at hr <;> cases hr <;> rfl
    · unfold evMakeFunc at hr
      (repeat' split at hr) <;> first | (cases hr; done) | (obtain ⟨-, e⟩ := cond_some hr; cases e; rfl)
    · unfold evExtract at hr; (repeat' split at hr) <;> cases hr; rfl
    · unfold evBin at hr
      split at hr
      · next k a k' b hx hy =>
        cases hk : decide (k = k') with
        | false => rw [hk] at hr; cases hr
        | true =>
          rw [hk] at hr
          simp only [cond_true] at hr
          split at hr <;> cases hr
          rfl
      · split at hr
        · unfold nilEq at hr; split at hr <;> cases hr <;> rfl
        · cases hr
      · split at hr
        · unfold nilEq at hr; split at hr <;> cases hr <;> rfl
        · cases hr
      · cases hr
    · next hop =>
      unfold evBuiltin at hr
      split at hr
      · unfold evLen at hr; (repeat' split at hr) <;> cases hr <;> rfl
      · unfold evCap at hr; (repeat' split at hr) <;> cases hr <;> rfl
      · exfalso; rw [hop] at hl; cases hl
      · exfalso; rw [hop] at hl; cases hl
      · cases hr
    · unfold evMakeInterface at hr; (repeat' split at hr) <;> cases hr <;> rfl
    · unfold evLookup at hr; (repeat' split at hr) <;> cases hr <;> rfl
    · next x b hop =>
      unfold evNext at hr
      cases b with
      | true => cases hr
      | false =>
        simp only [cond_false] at hr
        (repeat' split at hr) <;> first | (cases hr; done) | (obtain ⟨-, e⟩ := cond_some hr; cases e; rfl)
    · cases hr
  · split at h
    · cases h; rfl
    · cases h
end
end Go.Proofs.YtokbandookjdjaaGreat.Ev
