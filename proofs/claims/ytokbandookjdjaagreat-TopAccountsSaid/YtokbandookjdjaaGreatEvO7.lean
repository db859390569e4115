/- A symbolic evaluator of the model's code: its operations are right (append, copy). -/
import Derived.Test.YtokbandookjdjaaGreatEvO6
namespace Go.Proofs.YtokbandookjdjaaGreat.Ev
open Go
section
variable {P : Program} {o : Oper} {E : Emb} {w : World} {v : AV} {s s' : AS} {aa : List AV}
/-- a named block gets another name and holds something else -/
theorem eff_swap {n : Nat} {h : Heap} {w' : World} (hs : HSim E h w) (hf : Fresh E n) {id : Nat} {ao ao' : AObj} (hi : h.get id = some ao) (h1 : w'.os = w.os) (h2 : w'.tape = w.tape) (h3 : w'.output = w.output) (h4 : w'.heap.size = w.heap.size)
    (h5 : ∀ c, c ≠ blk E id → w'.heap[c]? = w.heap[c]?) (h6 : objR (upd E n (blk E id, kap E id)) ao' (kap E id) w'.heap[blk E id]?) (h7 : okO (upd E n (blk E id, kap E id)) ao' = true) :
    Eff n E h w (n + 1) (upd E n (blk E id, kap E id)) ((n, ao') :: h.rm id) w' := by
  have hn := hf n (Nat.le_refl _)
  have hl := upd_le hn (blk E id, kap E id)
  have hg : ∀ j p, Heap.get ((n, ao') :: h.rm id) j = some p → (j = n ∧ p = ao') ∨ (j ≠ n ∧ j ≠ id ∧ h.get j = some p) := fun j p hj => by
    rw [get_cons] at hj
    split at hj
    · next e => cases hj; exact Or.inl ⟨e.symm, rfl⟩
    · next e =>
      rw [get_rm] at hj
      split at hj
      · cases hj
      · next e2 => exact Or.inr ⟨fun e3 => e e3.symm, fun e3 => e2 e3.symm, hj⟩
  have hb : ∀ j p, h.get j = some p → blk (upd E n (blk E id, kap E id)) j = blk E j ∧ kap (upd E n (blk E id, kap E id)) j = kap E j ∧ (upd E n (blk E id, kap E id) j).isSome = true := fun j p hj => hl.blk (hs.obj j p hj).1
  obtain ⟨u1, u2, u3⟩ := upd_same E n (blk E id, kap E id)
  refine ⟨Nat.le_succ _, fun i hi => by unfold upd; rw [if_neg (by omega)], fun i hi => by unfold upd; rw [if_neg (by omega)]; exact hf i (by omega), h1, h2, h3, by omega, fun b _ hk => h5 b (fun e => hk id ao hi e.symm), fun j p hj => ?_, ⟨fun j p hj => ?_, fun j k p q hj hk e => ?_⟩⟩
  · rcases hg j p hj with ⟨rfl, -⟩ | ⟨-, -, h8⟩
    · exact Or.inl ⟨id, ao, hi, u1.symm⟩
    · exact Or.inl ⟨j, p, h8, (hb j p h8).1.symm⟩
  · rcases hg j p hj with ⟨rfl, rfl⟩ | ⟨-, hne, h8⟩
    · refine ⟨u3, h7, ?_⟩
      rw [u1, u2]
      exact h6
    · have h9 := hs.obj j p h8
      have h10 := objR_le hl h9.2.1 h9.2.2
      have h11 := hb j p h8
      refine ⟨h11.2.2, h10.2, ?_⟩
      rw [h11.1, h11.2.1, h5 _ (fun e => hne (hs.inj j id p ao h8 hi e))]
      exact h10.1
  · rcases hg j p hj with ⟨rfl, -⟩ | ⟨hjn, hji, h8⟩ <;> rcases hg k q hk with ⟨rfl, -⟩ | ⟨hkn, hki, h9⟩
    · rfl
    · rw [u1, (hb k q h9).1] at e
      exact absurd (hs.inj id k ao q hi h9 e).symm hki
    · rw [u1, (hb j p h8).1] at e
      exact absurd (hs.inj j id p ao h8 hi e) hji
    · rw [(hb j p h8).1, (hb k q h9).1] at e
      exact hs.inj j k p q h8 h9 e
theorem src_ok {y : AV} {z n : Nat} {vs : List AV} {u e' : TypeId} (hk : P.underlying u = some (.slice e')) (h : srcA s.heap z y = some (vs, n)) (hone : vs.all oneA = true) (hs : HSim E s.heap w) :
    Src P z u (conc E y) n (concL E vs) w ∧ okL E vs = true ∧ vs.length = n * z := by
  unfold srcA at h
  split at h
  · cases h
    exact ⟨Src.ofNil w hk _, rfl, by simp⟩
  · next id off len c =>
    split at h
    · next cs ty gz hg =>
      cases hc : Nat.ble (off + len * z) cs.length with
      | false => rw [hc] at h; cases h
      | true =>
        rw [hc] at h
        simp only [cond_true, Option.some.injEq, Prod.mk.injEq] at h
        obtain ⟨h1, h2⟩ := h
        subst h1 h2
        have hle := Nat.le_of_ble_eq_true hc
        have hlen : ((cs.drop off).take (len * z)).length = len * z := by rw [List.length_take, List.length_drop]; omega
        obtain ⟨ext, -, -, -, h4, -⟩ := hs.row hg
        refine ⟨?_, okL_take (okL_drop h4 off) _, hlen⟩
        rw [conc_sl]
        exact Src.ofSlice w hk ⟨blk E id, off, none⟩ len _ _ (by rw [concL_length, hlen]) (fun j u hu => by rw [add_place]; exact hs.range hg off (len * z) j u hu) (all_one hone)
    · cases h
  · cases h
theorem first_some {id off len z cap : Nat} {cs : List AV} {ty : TypeId} {gz : Option Nat} (hs : HSim E s.heap w) (hg : s.heap.get id = some (.cells cs ty gz)) (hl : off + len * z ≤ cs.length) :
    (Builtin.firstCells z len (.slice (some ⟨blk E id, off, none⟩) len cap)).run P w.drew = .ok (concL E ((cs.drop off).take (len * z))).toArray w.drew := by
  refine run_firstCells_some w.drew z len ⟨blk E id, off, none⟩ len cap _ (by rw [concL_length, List.length_take, List.length_drop]; omega) fun j u hu => ?_
  rw [add_place]
  exact hs.range hg off (len * z) j u hu
/-- an append that makes a new block -/
theorem grow_ok {t e u : TypeId} {x y : AV} {base : Option Addr} {len cap n : Nat} {olds vs : List AV} {i : TypeInfo} {z : Value} {ty : TypeId} (hx : conc E x = .slice base len cap) (hu : P.underlying t = some (.slice e)) (hi : P.info? e = some i) (hz : i.zero = some z) (hzs : z.cells.size = i.size)
    (hold : (Builtin.firstCells i.size len (.slice base len cap)).run P w.drew = .ok (concL E olds).toArray w.drew) (hol : olds.length = len * i.size) (hok : okL E olds = true) (hsrc : Src P i.size u (conc E y) n (concL E vs) w) (hvl : vs.length = n * i.size) (hvok : okL E vs = true)
    (hg : cap < len + n) (hsmall : (len + n) * i.bytes + (len + n) ≤ 1000000) (hs : HSim E s.heap w) (hf : Fresh E s.next) :
    ∃ E' w', (Builtin.append_ #[t, u] ty #[conc E x, conc E y]).run P w = .ok (conc E' (.sl s.next 0 (len + n) none)) w' ∧ okA E' (.sl s.next 0 (len + n) none) = true ∧ Eff s.next E s.heap w (s.next + 1) E' ((s.next, .cells (olds ++ vs) e (some i.size)) :: s.heap) w' := by
  have hr := run_append_grow_src w t u ty e i z hu hi hz base len cap (concL E olds) hold (conc E y) n (concL E vs) hsrc hg (by omega) (growslice_fits hg (by omega))
  have hge := grownCap_ge w (len + n) cap e
  generalize grownCap w (len + n) cap e = C at hr hge
  obtain ⟨e1, e2, e3⟩ := upd_same E s.next (w.heap.size, C)
  have hl := upd_le (hf _ (Nat.le_refl _)) (w.heap.size, C)
  have hall := concL_le hl (olds ++ vs) (okL_append hok hvok)
  have hr2 : conc (upd E s.next (w.heap.size, C)) (.sl s.next 0 (len + n) none) = .slice (some ⟨w.heap.size, 0, none⟩) (len + n) C := by
    rw [conc_sl, e1]
    show Value.slice _ _ (kap (upd E s.next (w.heap.size, C)) s.next) = _
    rw [e2]
  rw [hx, hr]
  refine ⟨upd E s.next (w.heap.size, C), _, by rw [hr2], e3, ?_⟩
  · refine eff_new hs hf (k := C) rfl rfl rfl rfl ?_ hall.2
    unfold objR
    dsimp only
    refine ⟨(Builtin.zeroCells z.cells (C - (len + n))).toList, ?_, ?_⟩
    · rw [hall.1, concL_append]
      congr 2
      apply Array.ext'
      simp
    · rw [List.length_append, hol, hvl, Array.length_toList, size_zeroCells, hzs, ← Nat.add_mul, ← Nat.add_mul]
      congr 1
      omega
theorem good_append {t u e' : TypeId} {x y : Operand} (hop : o.op = .call { callee := .builtin .append, args := #[x, y], argTypes := #[t, u] }) (hk : P.underlying u = some (.slice e')) (hap : appendA P s t (evalA aa x) (evalA aa y) = some (v, s')) (ha : okL E aa = true) (hs : HSim E s.heap w) (hf : Fresh E s.next) : Good P o E aa s w v s' := by
  have hxok := okA_eval (E := E) ha x
  generalize hxa : evalA aa x = xa at hap hxok
  have hexec : execOp (evE E aa) o = (do pure (.value (← Builtin.append_ #[t, u] o.type #[conc E xa, conc E (evalA aa y)]))) := by
    rw [exec_builtin hop]
    have : (#[x, y].map (evE E aa)) = #[conc E xa, conc E (evalA aa y)] := by rw [← hxa]; simp [evE]
    rw [this]
    rfl
  have fin : ∀ {E' w' r n' h'}, (Builtin.append_ #[t, u] o.type #[conc E xa, conc E (evalA aa y)]).run P w = .ok (conc E' r) w' → okA E' r = true → Eff s.next E s.heap w n' E' h' w' → Good P o E aa s w r ⟨n', h'⟩ := fun {E' w' r n' h'} h1 h2 h3 =>
    ⟨E', w', _, by rw [hexec, Sem.run_bind, h1]; rfl, Or.inl rfl, h2, h3⟩
  clear hexec
  unfold appendA at hap
  split at hap
  case h_2 => cases hap
  next e hu =>
  split at hap
  case h_2 => cases hap
  next i hi =>
  split at hap
  case h_2 => cases hap
  next z hz =>
  split at hap
  case h_2 => cases hap
  next vs n hsrc =>
  cases hc : (Nat.beq z.cells.size i.size && Nat.ble 1 i.size && vs.all oneA) with
  | false => rw [hc] at hap; cases hap
  | true =>
    rw [hc] at hap
    simp only [cond_true] at hap
    simp only [Bool.and_eq_true] at hc
    obtain ⟨⟨c1, c2⟩, c3⟩ := hc
    have c1 := Nat.eq_of_beq_eq_true c1
    have c2 := Nat.le_of_ble_eq_true c2
    obtain ⟨hS, hvok, hvl⟩ := src_ok (E := E) (w := w) hk hsrc c3 hs
    split at hap
    · -- nil
      cases hn : Nat.beq n 0 with
      | true =>
        rw [hn] at hap
        have hn := Nat.eq_of_beq_eq_true hn
        subst hn
        cases hap
        have hvs : vs = [] := List.eq_nil_of_length_eq_zero (by omega)
        subst hvs
        exact fin (run_append_nothing w t u o.type e i hu hi none 0 0 (Nat.le_refl _) _ hS) rfl (Eff.refl hs hf)
      | false =>
        rw [hn] at hap
        simp only [cond_false] at hap
        cases hb : Nat.ble (n * i.bytes + n) 1000000 with
        | false => rw [hb] at hap; cases hap
        | true =>
          rw [hb] at hap
          cases hap
          have hb := Nat.le_of_ble_eq_true hb
          have hn0 : n ≠ 0 := fun e => by subst e; cases hn
          obtain ⟨E', w', r1, r2, r3⟩ := grow_ok (x := .lit (.slice none 0 0)) (olds := []) (ty := o.type) (len := 0) (cap := 0) rfl hu hi hz c1 (run_firstCells_none w.drew i.size 0 0 0) (by simp) rfl hS hvl hvok (by omega) (by rw [Nat.zero_add]; omega) hs hf
          simp only [Nat.zero_add, List.nil_append] at r1 r2 r3
          exact fin r1 r2 r3
    · -- a slice whose capacity is known
      next id off len c =>
      split at hap
      · next cs ty gz hg =>
        cases hroom : Nat.ble (len + n) c with
        | true =>
          rw [hroom] at hap
          simp only [cond_true] at hap
          have hroom := Nat.le_of_ble_eq_true hroom
          cases hb : Nat.ble (off + len * i.size + vs.length) cs.length with
          | false => rw [hb] at hap; cases hap
          | true =>
            rw [hb] at hap
            cases hap
            have hb := Nat.le_of_ble_eq_true hb
            have ht := hs.there hg hb
            have hr := run_append_room_src w t u o.type e i hu hi (blk E id) off len c _ n _ hS hroom (fun j hj => (ht j (by rw [concL_length] at hj; exact hj)).1) (fun j hj => (ht j (by rw [concL_length] at hj; exact hj)).2)
            exact fin (by rw [conc_sl]; exact hr) hxok (eff_write hs hf hg hb hvok)
        | false =>
          rw [hroom] at hap
          simp only [cond_false] at hap
          have hroom : ¬ len + n ≤ c := fun h => by rw [Nat.ble_eq_true_of_le h] at hroom; cases hroom
          cases hb : (Nat.ble (off + len * i.size) cs.length && Nat.ble ((len + n) * i.bytes + (len + n)) 1000000) with
          | false => rw [hb] at hap; cases hap
          | true =>
            rw [hb] at hap
            cases hap
            rw [Bool.and_eq_true] at hb
            have hb1 := Nat.le_of_ble_eq_true hb.1
            have hb2 := Nat.le_of_ble_eq_true hb.2
            obtain ⟨ext, -, -, -, h4, -⟩ := hs.row hg
            obtain ⟨E', w', r1, r2, r3⟩ := grow_ok (x := .sl id off len (some c)) (olds := (cs.drop off).take (len * i.size)) (ty := o.type) (conc_sl E id off len (some c)) hu hi hz c1 (first_some hs hg hb1) (by rw [List.length_take, List.length_drop]; omega) (okL_take (okL_drop h4 off) _) hS hvl hvok (by show c < len + n; omega) hb2 hs hf
            exact fin r1 r2 r3
      · cases hap
    · -- a slice whose capacity is not known
      next id len =>
      split at hap
      · next cs ty gz hg =>
        cases hb : (Nat.beq gz i.size && Nat.beq ty e && Nat.ble (len * i.size) cs.length && Nat.ble ((len + n) * i.bytes + (len + n)) 1000000) with
        | false => rw [hb] at hap; cases hap
        | true =>
          rw [hb] at hap
          simp only [Bool.and_eq_true] at hb
          obtain ⟨⟨⟨b1, b2⟩, b3⟩, b4⟩ := hb
          have b1 := Nat.eq_of_beq_eq_true b1
          have b2 := Nat.eq_of_beq_eq_true b2
          have b3 := Nat.le_of_ble_eq_true b3
          have b4 := Nat.le_of_ble_eq_true b4
          subst b1 b2
          simp only [cond_true] at hap
          have hk1 := kap_of hs hg c2 b3
          have hcx : conc E (.sl id 0 len none) = .slice (some ⟨blk E id, 0, none⟩) len (kap E id) := conc_sl E id 0 len none
          cases hn : Nat.beq n 0 with
          | true =>
            rw [hn] at hap
            have hn := Nat.eq_of_beq_eq_true hn
            subst hn
            cases hap
            have hvs : vs = [] := List.eq_nil_of_length_eq_zero (by omega)
            subst hvs
            exact fin (by rw [hcx]; exact run_append_nothing w t u o.type _ i hu hi _ len (kap E id) hk1 _ hS) hxok (Eff.refl hs hf)
          | false =>
            rw [hn] at hap
            simp only [cond_false] at hap
            cases hap
            obtain ⟨ext, g1, -, g3, g4, -⟩ := hs.row hg
            have g3 := g3 _ rfl
            by_cases hroom : len + n ≤ kap E id
            · have hkk : (len + n) * i.size ≤ kap E id * i.size := Nat.mul_le_mul_right _ hroom
              rw [Nat.add_mul] at hkk
              have hcell : ∀ j, j < (concL E vs).length → 0 + len * i.size + j < (concL E cs ++ ext).length := fun j hj => by
                rw [concL_length] at hj
                rw [List.length_append, concL_length]
                omega
              have hr := run_append_room_src w t u o.type _ i hu hi (blk E id) 0 len (kap E id) _ n _ hS hroom (fun j hj => by
                rw [cell_of_row _ _ _ _ _ _ g1, List.getElem?_toArray, List.getElem?_eq_getElem (hcell j hj)]
                rfl) (fun j hj => frozen_of_row _ _ _ _ _ g1)
              rw [Nat.zero_add] at hr
              have h6 := setCells_row (blk E id) (concL E vs) (len * i.size) w (concL E cs ++ ext) _ (0, 0) g1 (by rw [List.length_append, concL_length, concL_length]; omega)
              obtain ⟨o1, o2, o3, o4, o5⟩ := setCells_other (blk E id) (concL E vs) (len * i.size) w
              have hl := upd_le (hf _ (Nat.le_refl _)) (blk E id, kap E id)
              have hcs := okL_append (okL_take g4 (len * i.size)) hvok
              have hall := concL_le hl _ hcs
              obtain ⟨u1, u2, u3⟩ := upd_same E s.next (blk E id, kap E id)
              refine fin (E' := upd E s.next (blk E id, kap E id)) (w' := w.setCells (blk E id) (len * i.size) (concL E vs)) ?_ u3 (eff_swap hs hf hg o1 o2 o3 o4 o5 ?_ hall.2)
              · rw [hcx, hr, conc_sl, u1]
                show _ = Result.ok (Value.slice _ _ (kap (upd E s.next (blk E id, kap E id)) s.next)) _
                rw [u2]
              · unfold objR
                dsimp only
                refine ⟨(concL E cs ++ ext).drop (len * i.size + (concL E vs).length), ?_, ?_⟩
                · rw [h6, hall.1, concL_append, concL_take, List.take_append_of_le_length (by rw [concL_length]; exact b3)]
                · rw [List.length_append, List.length_take, List.length_drop, List.length_append, concL_length, concL_length]
                  omega
            · obtain ⟨E', w', r1, r2, r3⟩ := grow_ok (x := .sl id 0 len none) (olds := cs.take (len * i.size)) (ty := o.type) hcx hu hi hz c1 (by have := first_some (P := P) (w := w) (len := len) (off := 0) (z := i.size) (cap := kap E id) hs hg (by omega); rw [List.drop_zero] at this; exact this) (by rw [List.length_take]; omega) (okL_take g4 _) hS hvl hvok (by omega) b4 hs hf
              refine fin r1 r2 (r3.sub fun j p hj => ?_)
              rw [get_cons] at hj ⊢
              split at hj
              · next e2 => rw [if_pos e2]; exact hj
              · next e2 =>
                rw [if_neg e2]
                rw [get_rm] at hj
                split at hj
                · cases hj
                · exact hj
      · cases hap
    · cases hap
end
end Go.Proofs.YtokbandookjdjaaGreat.Ev
