/- A symbolic evaluator of the model's code: its operations are right (copy, append of zeros; all together). -/
import Derived.Test.YtokbandookjdjaaGreatEvO7
import Derived.Lib.AppendZeros
namespace Go.Proofs.YtokbandookjdjaaGreat.Ev
open Go
section
variable {P : Program} {o : Oper} {E : Emb} {w : World} {v : AV} {s s' : AS} {aa : List AV}
theorem zeroCells_eq {z : Array Value} (hz : 1 ≤ z.size) (k : Nat) : Builtin.zeroCells z k = ((List.replicate k z.toList).flatten).toArray := madeCells_eq hz k
theorem exec_two {b : Builtin} {x y : Operand} {t u : TypeId} (hop : o.op = .call { callee := .builtin b, args := #[x, y], argTypes := #[t, u] }) :
    execOp (evE E aa) o = builtin b #[t, u] o.type (#[x, y].map fun | .const _ => true | _ => false) #[conc E (evalA aa x), conc E (evalA aa y)] := by
  rw [exec_builtin hop]
  congr 1
  simp [evE]
theorem good_grow {t u : TypeId} {kd : IntKind} {x y : Operand} (hop : o.op = .call { callee := .builtin .append, args := #[x, y], argTypes := #[t, u] }) (hk : P.underlying u = some (.int kd)) (hg : growA P s t (evalA aa x) (evalA aa y) = some (v, s')) (hs : HSim E s.heap w) (hf : Fresh E s.next) : Good P o E aa s w v s' := by
  have hexec := exec_two (E := E) (aa := aa) hop
  generalize hxa : evalA aa x = xa at hg hexec
  generalize hya : evalA aa y = ya at hg hexec
  unfold growA at hg
  split at hg
  case h_2 => cases hg
  next e n hu =>
  split at hg
  case h_2 => cases hg
  next i hi =>
  split at hg
  case h_2 => cases hg
  next z hz =>
  cases hc : (decide (1 ≤ n) && Nat.ble (n.toNat * i.bytes + n.toNat) 1000000 && Nat.beq z.cells.size i.size && Nat.ble 1 i.size) with
  | false => rw [hc] at hg; cases hg
  | true =>
    rw [hc] at hg
    cases hg
    simp only [Bool.and_eq_true, decide_eq_true_eq] at hc
    obtain ⟨⟨⟨c1, c2⟩, c3⟩, c4⟩ := hc
    have c2 := Nat.le_of_ble_eq_true c2
    have c3 := Nat.eq_of_beq_eq_true c3
    have c4 := Nat.le_of_ble_eq_true c4
    have hnn : (n.toNat : Int) = n := Int.toNat_of_nonneg (by omega)
    have hr := Lib.run_append_nil_zeros w t u o.type e i z .i64 kd hu hk hi hz n.toNat (by omega) c4 (by omega) (by omega)
    rw [hnn] at hr
    have hge := grownCap_ge w n.toNat 0 e
    generalize grownCap w n.toNat 0 e = C at hr hge
    obtain ⟨e1, e2, e3⟩ := upd_same E s.next (w.heap.size, C)
    have hl := upd_le (hf _ (Nat.le_refl _)) (w.heap.size, C)
    refine ⟨upd E s.next (w.heap.size, C), w.drew.alloc (.cells (Builtin.zeroCells z.cells n.toNat ++ Builtin.zeroCells z.cells (C - n.toNat)) e), _, ?_, Or.inl rfl, e3, eff_new hs hf (k := C) rfl rfl rfl rfl ?_ (flat_ok _ n.toNat z.cells.toList)⟩
    · have hcv : conc (upd E s.next (w.heap.size, C)) (.sl s.next 0 n.toNat none) = .slice (some ⟨w.heap.size, 0, none⟩) n.toNat C := by
        rw [conc_sl, e1]
        show Value.slice _ _ (kap (upd E s.next (w.heap.size, C)) s.next) = _
        rw [e2]
      rw [hcv, hexec]
      simp only [builtin, Sem.run_bind, conc, hr, Result.andThen_ok]
      rfl
    · unfold objR
      dsimp only
      refine ⟨(Builtin.zeroCells z.cells (C - n.toNat)).toList, ?_, ?_⟩
      · rw [flat_conc, zeroCells_eq (by omega) n.toNat]
        congr 2
        apply Array.ext'
        simp
      · have h7 : ((List.replicate n.toNat (z.cells.toList.map AV.lit)).flatten).length = n.toNat * i.size := by simp [c3]
        have h8 : (Builtin.zeroCells z.cells (C - n.toNat)).toList.length = (C - n.toNat) * i.size := by rw [Array.length_toList, size_zeroCells, c3]
        rw [h7, h8, ← Nat.add_mul]
        congr 1
        omega
theorem good_copy {t u : TypeId} {x y : Operand} (hop : o.op = .call { callee := .builtin .copy, args := #[x, y], argTypes := #[t, u] }) (hg : copyA P s t (evalA aa x) (evalA aa y) = some (v, s')) (_ha : okL E aa = true) (hs : HSim E s.heap w) (hf : Fresh E s.next) : Good P o E aa s w v s' := by
  have hexec := exec_two (E := E) (aa := aa) hop
  generalize hxa : evalA aa x = xa at hg hexec
  generalize hya : evalA aa y = ya at hg hexec
  unfold copyA at hg
  split at hg
  case h_2 => cases hg
  next e id off len c hu =>
  split at hg
  case h_2 => cases hg
  next i hi =>
  split at hg
  case h_2 => cases hg
  next vs n cs ty gz hsrc hgd =>
  dsimp only at hg
  cases hc : ((vs.take (Nat.min n len * i.size)).all oneA && Nat.ble (off + (vs.take (Nat.min n len * i.size)).length) cs.length) with
  | false => rw [hc] at hg; cases hg
  | true =>
    rw [hc] at hg
    simp only [cond_true, Option.some.injEq, Prod.mk.injEq] at hg
    obtain ⟨h1, h2⟩ := hg
    subst h1 h2
    rw [Bool.and_eq_true] at hc
    have c1 := hc.1
    have c2 := Nat.le_of_ble_eq_true hc.2
    have hmn : Nat.min n len ≤ n := Nat.min_le_left n len
    -- what the source yields
    have hsrc2 : (Builtin.lenOf (conc E ya)).run P w = .ok n w ∧ (Builtin.firstCells i.size (Nat.min n len) (conc E ya)).run P w = .ok (concL E (vs.take (Nat.min n len * i.size))).toArray w ∧ okL E vs = true := by
      unfold srcA at hsrc
      split at hsrc
      · cases hsrc
        refine ⟨rfl, ?_, rfl⟩
        have : Nat.min 0 len = 0 := Nat.min_eq_left (Nat.zero_le _)
        rw [this, List.take_nil]
        exact run_firstCells_none w i.size 0 0 _
      · next id2 off2 len2 c2' =>
        split at hsrc
        · next cs2 ty2 gz2 hg2 =>
          cases hb : Nat.ble (off2 + len2 * i.size) cs2.length with
          | false => rw [hb] at hsrc; cases hsrc
          | true =>
            rw [hb] at hsrc
            simp only [cond_true, Option.some.injEq, Prod.mk.injEq] at hsrc
            obtain ⟨q1, q2⟩ := hsrc
            subst q1 q2
            have hb := Nat.le_of_ble_eq_true hb
            obtain ⟨ext, -, -, -, h4, -⟩ := hs.row hg2
            refine ⟨rfl, ?_, okL_take (okL_drop h4 off2) _⟩
            have hm2 : Nat.min len2 len * i.size ≤ len2 * i.size := Nat.mul_le_mul_right _ hmn
            rw [conc_sl, List.take_take, Nat.min_eq_left hm2]
            refine run_firstCells_some w i.size (Nat.min len2 len) ⟨blk E id2, off2, none⟩ len2 _ _ (by rw [concL_length, List.length_take, List.length_drop]; omega) fun j u hu => ?_
            rw [add_place]
            exact hs.range hg2 off2 _ j u hu
        · cases hsrc
      · cases hsrc
    obtain ⟨s1, s2, s3⟩ := hsrc2
    have ht := hs.there hgd c2
    have hst := run_storeCells_cells (P := P) (blk E id) off (concL E (vs.take (Nat.min n len * i.size))) 0 w (fun j hj => by rw [Nat.add_zero]; exact (ht j (by rw [concL_length] at hj; exact hj)).1) (fun j hj => by rw [Nat.add_zero]; exact (ht j (by rw [concL_length] at hj; exact hj)).2) (all_one c1)
    rw [Nat.add_zero] at hst
    refine ⟨E, _, _, ?_, Or.inl rfl, rfl, eff_write hs hf hgd c2 (okL_take s3 _)⟩
    rw [hexec, conc_sl]
    simp only [builtin, Builtin.copy_, Sem.run_bind, run_underlying hu, Result.andThen_ok, s1, sizeOf, typeInfo, program, Sem.run, hi, Sem.run_pure, s2, conc, List.getElem?_toArray, List.getElem?_cons_zero, List.getElem?_cons_succ]
    simp [hst]
end
end Go.Proofs.YtokbandookjdjaaGreat.Ev
