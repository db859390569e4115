/- A symbolic evaluator of the model's code: its operations are right (those that write or make memory). -/
import Derived.Test.YtokbandookjdjaaGreatEvO
namespace Go.Proofs.YtokbandookjdjaaGreat.Ev
open Go
section
variable {P : Program} {o : Oper} {ev : Operand → Value} {n : Nat} {E : Emb} {h : Heap} {w : World} {v : AV}
theorem writeL_length {cs vs : List AV} {off : Nat} (hl : off + vs.length ≤ cs.length) : (writeL cs off vs).length = cs.length := by
  unfold writeL
  simp only [List.length_append, List.length_take, List.length_drop]
  omega
theorem writeL_conc (E : Emb) {cs vs : List AV} {off : Nat} (ext : List Value) (hl : off + vs.length ≤ cs.length) :
    concL E (writeL cs off vs) ++ ext = (concL E cs ++ ext).take off ++ concL E vs ++ (concL E cs ++ ext).drop (off + (concL E vs).length) := by
  have h1 := concL_length E cs
  have h2 := concL_length E vs
  unfold writeL
  rw [concL_append, concL_append, concL_take, concL_drop, List.take_append_of_le_length (by omega), List.drop_append_of_le_length (by omega), h2]
  simp only [List.append_assoc]
theorem writeL_ok {cs vs : List AV} {off : Nat} (h1 : okL E cs = true) (h2 : okL E vs = true) : okL E (writeL cs off vs) = true :=
  okL_append (okL_append (okL_take h1 off) h2) (okL_drop h1 _)
/-- stores into a named block -/
theorem eff_write (hs : HSim E h w) (hf : Fresh E n) {id off : Nat} {cs vs : List AV} {ty : TypeId} {z : Option Nat} (hg : h.get id = some (.cells cs ty z)) (hl : off + vs.length ≤ cs.length) (hv : okL E vs = true) :
    Eff n E h w n E (h.put id (.cells (writeL cs off vs) ty z)) (w.setCells (blk E id) off (concL E vs)) := by
  obtain ⟨ext, h1, h2, h3, h4, h5⟩ := hs.row hg
  have h6 := setCells_row (blk E id) (concL E vs) off w (concL E cs ++ ext) ty (0, 0) h1 (by rw [List.length_append, concL_length, concL_length]; omega)
  rw [← writeL_conc E ext hl] at h6
  obtain ⟨o1, o2, o3, o4, o5⟩ := setCells_other (blk E id) (concL E vs) off w
  refine eff_put hs hf hg o1 o2 o3 o4 o5 ?_ (writeL_ok h4 hv)
  cases z with
  | none =>
    obtain rfl := h2 rfl
    unfold objR
    dsimp only
    rw [h6, List.append_nil]
  | some k =>
    unfold objR
    dsimp only
    exact ⟨ext, h6, by rw [writeL_length hl]; exact h3 k rfl⟩
theorem all_one {vs : List AV} (h : vs.all oneA = true) : ∀ u ∈ concL E vs, u.oneCell' = true := fun u hu => by
  rw [concL_map] at hu
  obtain ⟨x, hx, rfl⟩ := List.mem_map.1 hu
  exact oneA_cell (List.all_eq_true.1 h x hx)
theorem store_ok {t : TypeId} {id off : Nat} {h' : Heap} (hs : HSim E h w) (hf : Fresh E n) (hv : okA E v = true) (hw : writeA P h t id off v = some h') :
    ∃ w', (storeVar t ⟨blk E id, off, none⟩ (conc E v)).run P w = .ok () w' ∧ Eff n E h w n E h' w' := by
  unfold writeA at hw
  split at hw
  · next cs ty z hg =>
    dsimp only at hw
    cases hc : (Nat.ble (off + (cellsA v).length) cs.length && (sizeB P t == some (cellsA v).length) && (cellsA v).all oneA) with
    | false => rw [hc] at hw; cases hw
    | true =>
      rw [hc] at hw
      cases hw
      simp only [Bool.and_eq_true] at hc
      obtain ⟨⟨c1, c2⟩, c3⟩ := hc
      have c1 := Nat.le_of_ble_eq_true c1
      obtain ⟨e1, e2⟩ := cells_conc E v
      have he := eff_write (vs := cellsA v) hs hf hg c1 (e2 hv)
      refine ⟨_, ?_, he⟩
      unfold sizeB at c2
      cases hi : P.info? t with
      | none => rw [hi] at c2; simp at c2
      | some i =>
        rw [hi] at c2
        have c2 : i.size = (cellsA v).length := by simpa using c2
        have ht := hs.there hg c1
        have hst := run_storeCells_cells (P := P) (blk E id) off (concL E (cellsA v)) 0 w (fun j hj => by rw [Nat.add_zero]; exact (ht j (by rw [concL_length] at hj; exact hj)).1) (fun j hj => by rw [Nat.add_zero]; exact (ht j (by rw [concL_length] at hj; exact hj)).2) (all_one c3)
        rw [Nat.add_zero] at hst
        unfold storeVar
        simp [Sem.run_bind, sizeOf, typeInfo, program, Sem.run, hi, e1, hst]
        rw [concL_length]
        exact c2.symm
  · cases hw
/-- a new block that is as the heap says -/
theorem new_ok (hs : HSim E h w) (hf : Fresh E n) {cs : List AV} {ty : TypeId} (hc : okL E cs = true) (arr : Array Value) (ha : arr = (concL E cs).toArray) :
    Eff n E h w (n + 1) (upd E n (w.heap.size, 0)) ((n, .cells cs ty none) :: h) (w.alloc (.cells arr ty)) := by
  have hl := upd_le (hf n (Nat.le_refl _)) (w.heap.size, 0)
  have h2 := concL_le hl cs hc
  refine eff_new hs hf (k := 0) (ob := .cells arr ty) rfl rfl rfl rfl ?_ h2.2
  unfold objR
  dsimp only
  rw [h2.1, ha]
theorem new_of (hs : HSim E h w) (hf : Fresh E n) {cs : List AV} {ty : TypeId} {w' : World} (hc : okL E cs = true) (arr : Array Value) (ha : arr = (concL E cs).toArray) (hw : w' = w.alloc (.cells arr ty)) :
    Eff n E h w (n + 1) (upd E n (w.heap.size, 0)) ((n, .cells cs ty none) :: h) w' := by
  subst hw
  exact new_ok hs hf hc arr ha
theorem ptr_new (w : World) : conc (upd E n (w.heap.size, 0)) (.ptr n 0) = .pointer (some ⟨w.heap.size, 0, none⟩) ∧ okA (upd E n (w.heap.size, 0)) (.ptr n 0) = true := by
  obtain ⟨e1, -, e3⟩ := upd_same E n (w.heap.size, 0)
  exact ⟨by simp only [conc, e1], e3⟩
theorem sl_new (w : World) (len c : Nat) : conc (upd E n (w.heap.size, 0)) (.sl n 0 len (some c)) = .slice (some ⟨w.heap.size, 0, none⟩) len c ∧ okA (upd E n (w.heap.size, 0)) (.sl n 0 len (some c)) = true := by
  obtain ⟨e1, -, e3⟩ := upd_same E n (w.heap.size, 0)
  exact ⟨by simp only [conc, e1], e3⟩
/-- stores of a list, one after the other -/
theorem fold_write (off : Nat) : ∀ (vs : List Value) (k : Nat) (arr : List Value), off + k + vs.length ≤ arr.length →
    (vs.zipIdx k).foldl (fun (cs : Array Value) (p : Value × Nat) => cs.setIfInBounds (off + p.2) p.1) arr.toArray = (arr.take (off + k) ++ vs ++ arr.drop (off + k + vs.length)).toArray
  | [], k, arr, _ => by simp
  | v :: r, k, arr, hl => by
    rw [List.length_cons] at hl
    rw [List.zipIdx_cons, List.foldl_cons, List.setIfInBounds_toArray, fold_write off r (k + 1) (arr.set (off + k) v) (by rw [List.length_set]; omega)]
    congr 1
    have e1 : (arr.set (off + k) v).take (off + (k + 1)) = arr.take (off + k) ++ [v] := by
      rw [← Nat.add_assoc, List.take_add_one, List.getElem?_set_self (by omega), List.take_set_of_le (Nat.le_refl _)]
      rfl
    have e2 : (arr.set (off + k) v).drop (off + (k + 1) + r.length) = arr.drop (off + k + (r.length + 1)) := by
      rw [List.drop_set_of_lt (by omega)]
      congr 1
      omega
    rw [e1, e2, List.length_cons]
    simp
theorem fill_ok {place place' : Nat → Option (Nat × Nat)} (hpl : ∀ i, place i = place' i) : ∀ (parts : List (Nat × AV)) (cs cs' : List AV), okL E cs = true → (∀ p ∈ parts, okA E p.2 = true) → fillA place cs parts = some cs' →
    Instr.fill place' (concL E cs).toArray (parts.map fun p => (p.1, conc E p.2)) = some (concL E cs').toArray ∧ okL E cs' = true
  | [], cs, cs', hc, _, hfl => by
    rw [fillA] at hfl
    cases hfl
    exact ⟨rfl, hc⟩
  | (i, v) :: r, cs, cs', hc, hp, hfl => by
    rw [fillA] at hfl
    split at hfl
    · cases hfl
    · next off size hpi =>
      dsimp only at hfl
      cases hb : (Nat.beq (cellsA v).length size && Nat.ble (off + size) cs.length) with
      | false => rw [hb] at hfl; cases hfl
      | true =>
        rw [hb] at hfl
        simp only [Bool.and_eq_true] at hb
        have b1 := Nat.eq_of_beq_eq_true hb.1
        have b2 := Nat.le_of_ble_eq_true hb.2
        obtain ⟨e1, e2⟩ := cells_conc E v
        have hv := hp (i, v) (by simp)
        have ih := fill_ok hpl r (writeL cs off (cellsA v)) cs' (writeL_ok hc (e2 hv)) (fun p hpm => hp p (by simp [hpm])) hfl
        refine ⟨?_, ih.2⟩
        rw [List.map_cons, Instr.fill, ← hpl i, hpi]
        have hsz : (conc E v).cells.size = size := by rw [e1, ← b1]; simp [concL_length]
        have hcond : ((conc E v).cells.size ≠ size || off + (conc E v).cells.size > (concL E cs).toArray.size) = false := by
          have hq : (concL E cs).toArray.size = cs.length := by simp [concL_length]
          rw [hsz, hq]
          simp
          omega
        dsimp only
        rw [if_neg (by rw [hcond]; simp)]
        have hfw := fold_write off (concL E (cellsA v)) 0 (concL E cs) (by rw [concL_length, concL_length]; omega)
        have hw := writeL_conc E [] (cs := cs) (vs := cellsA v) (off := off) (by omega)
        rw [List.append_nil, List.append_nil] at hw
        rw [Nat.add_zero, ← hw] at hfw
        rw [← ih.1]
        congr 1
        rw [e1, ← hfw]
        simp
end
end Go.Proofs.YtokbandookjdjaaGreat.Ev
