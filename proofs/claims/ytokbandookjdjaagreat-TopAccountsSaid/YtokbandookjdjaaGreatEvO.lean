/- A symbolic evaluator of the model's code: its operations are right (those that read). -/
import Derived.Test.YtokbandookjdjaaGreatEvE
import Derived.Laws.Slices
namespace Go.Proofs.YtokbandookjdjaaGreat.Ev
open Go
/-- what an operation does -/
def OpOk (P : Program) (o : Oper) (ev : Operand → Value) (n : Nat) (E : Emb) (h : Heap) (w : World) (v : AV) (n' : Nat) (h' : Heap) : Prop :=
  ∃ E' w' nx, (execOp ev o).run P w = .ok nx w' ∧ (nx = .value (conc E' v) ∨ (nx = .skip ∧ v = .lit undef)) ∧ okA E' v = true ∧ Eff n E h w n' E' h' w'
section
variable {P : Program} {o : Oper} {ev : Operand → Value} {n : Nat} {E : Emb} {h : Heap} {w : World} {v : AV}
theorem OpOk.pure (hr : (execOp ev o).run P w = .ok (.value (conc E v)) w) (hv : okA E v = true) (hs : HSim E h w) (hf : Fresh E n) : OpOk P o ev n E h w v n h :=
  ⟨E, w, _, hr, Or.inl rfl, hv, Eff.refl hs hf⟩
theorem getT_eq : ∀ (aa : List AV) (t : Nat), getT aa t = (aa[t]?).getD (.lit undef)
  | [], _ => rfl
  | _ :: _, 0 => rfl
  | _ :: r, t + 1 => (getT_eq r t).trans (by rw [List.getElem?_cons_succ])
theorem setA_eq : ∀ (aa : List AV) (n : Nat) (v : AV), setA aa n v = aa.set n v
  | [], _, _ => rfl
  | _ :: _, 0, _ => rfl
  | x :: r, n + 1, v => by
    show x :: setA r n v = _
    rw [setA_eq r n v]
    rfl
theorem okA_getT {aa : List AV} (ha : okL E aa = true) (t : Nat) : okA E (getT aa t) = true := by
  rw [getT_eq]
  cases hg : aa[t]? with
  | none => rfl
  | some y => exact okL_get ha hg
theorem okA_eval {aa : List AV} (ha : okL E aa = true) (x : Operand) : okA E (evalA aa x) = true := by
  cases x with
  | tmp t => exact okA_getT ha t
  | _ => rfl
theorem part_ok {t : TypeId} {cs : List AV} {off : Nat} (hp : partA P t cs off = some v) (hc : okL E cs = true) (ext : List Value) : (part t (concL E cs ++ ext).toArray off).run P w = .ok (conc E v) w ∧ okA E v = true := by
  unfold partA at hp
  split at hp
  · next hg =>
    split at hp
    · next m hm =>
      cases hle : Nat.ble (off + m) cs.length with
      | false => rw [hle] at hp; cases hp
      | true =>
        rw [hle] at hp
        cases hp
        have hle := Nat.le_of_ble_eq_true hle
        refine ⟨?_, okL_take (okL_drop hc off) m⟩
        unfold isAggB at hg
        unfold sizeB at hm
        cases hu : P.underlying t with
        | none => rw [hu] at hg; cases hg
        | some d =>
          cases hi : P.info? t with
          | none => rw [hi] at hm; cases hm
          | some i =>
            rw [hi] at hm
            have hm : i.size = m := by simpa using hm
            have hag : (isAgg t).run P w = .ok true w := by
              unfold isAgg
              rw [Sem.run_bind, run_underlying hu w]
              rw [hu] at hg
              cases d <;> simp_all
            unfold part
            rw [Sem.run_bind, hag]
            simp only [Result.andThen_ok, if_true]
            simp only [Sem.run_bind, sizeOf, typeInfo, program, Sem.run, hi, Sem.run_pure, Result.andThen_ok, hm]
            congr 2
            rw [concL_take, concL_drop]
            apply Array.ext'
            have hl := concL_length E cs
            rw [Array.toList_extract]
            simp only [List.extract_eq_take_drop]
            rw [List.drop_append_of_le_length (by omega), List.take_append_of_le_length (by rw [List.length_drop]; omega)]
            congr 1
            omega
    · cases hp
  · next hg =>
    refine ⟨?_, okL_get hc hp⟩
    unfold isAggB at hg
    cases hu : P.underlying t with
    | none => rw [hu] at hg; cases hg
    | some d =>
      have hag : (isAgg t).run P w = .ok false w := by
        unfold isAgg
        rw [Sem.run_bind, run_underlying hu w]
        rw [hu] at hg
        cases d <;> simp_all
      have hlt := (List.getElem?_eq_some_iff.1 hp).1
      have hget : ((concL E cs ++ ext).toArray)[off]? = some (conc E v) := by
        rw [List.getElem?_toArray, List.getElem?_append_left (by rw [concL_length]; exact hlt), concL_get, hp]
        rfl
      unfold part
      rw [Sem.run_bind, hag]
      simp [hget]
  · cases hp
theorem read_ok {t : TypeId} {id off : Nat} (hs : HSim E h w) (hp : readA P h t id off = some v) : (loadVar t ⟨blk E id, off, none⟩).run P w = .ok (conc E v) w ∧ okA E v = true := by
  unfold readA at hp
  split at hp
  · next cs ty z hg =>
    obtain ⟨ext, h1, -, -, h4, -⟩ := hs.row hg
    unfold partA at hp
    split at hp
    · next hag =>
      split at hp
      · next m hm =>
        cases hle : Nat.ble (off + m) cs.length with
        | false => rw [hle] at hp; cases hp
        | true =>
          rw [hle] at hp
          cases hp
          have hle := Nat.le_of_ble_eq_true hle
          refine ⟨?_, okL_take (okL_drop h4 off) m⟩
          unfold isAggB at hag
          cases hu : P.underlying t with
          | none => rw [hu] at hag; cases hag
          | some d =>
            have hd : d.isRow = true := by
              rw [hu] at hag
              cases d <;> simp_all
            have hl : (concL E ((cs.drop off).take m)).length = m := by rw [concL_length, List.length_take, List.length_drop]; omega
            exact run_loadVar_mid w (blk E id) off t (concL E ((cs.drop off).take m)) d (hs.range hg off m) hu hd (by unfold sizeB at hm; rw [hl]; exact hm)
      · cases hp
    · next hag =>
      refine ⟨?_, okL_get h4 hp⟩
      unfold isAggB at hag
      cases hu : P.underlying t with
      | none => rw [hu] at hag; cases hag
      | some d =>
        have hd : (isAgg t).run P w = .ok false w := by
          unfold isAgg
          rw [Sem.run_bind, run_underlying hu w]
          rw [hu] at hag
          cases d <;> simp_all
        have hlt := (List.getElem?_eq_some_iff.1 hp).1
        have hc : w.cell? ⟨blk E id, off, none⟩ = some (conc E v) := by
          rw [cell_of_row _ _ _ _ _ _ h1, List.getElem?_toArray, List.getElem?_append_left (by rw [concL_length]; exact hlt), concL_get, hp]
          rfl
        unfold loadVar
        rw [Sem.run_bind, hd]
        simp [load, Sem.run, hc]
    · cases hp
  · cases hp
end
end Go.Proofs.YtokbandookjdjaaGreat.Ev
