/- Slices of slices of the call's own, and their append. -/
import Derived.Test.YtleiiedacachjaaTOrder
import Derived.Test.YtleiiedacachjaaKAsideL
import Derived.Test.YtleiiedacachjaaReg
namespace Go.Proofs.Ytleiiedacachjaa
open Go.RowKit
theorem wpList_sliceAt {P : Program} {w : World} {ops : Array Oper} {rest : List Oper} {o : Oper} {a : Act} {Q : Exit → Act → World → Prop} (hgd : o.guard = none) (t : TypeId) (x : Operand) (lo hi mx : Option Operand)
    (ho : o.op = .slice t x lo hi mx) (v' : Value) (hrun : (Instr.sliceAt t (a.eval x) (lo.map a.eval) (hi.map a.eval) (mx.map a.eval)).run P w = .ok v' w)
    (h : wpList P ops Q rest (a.put o.dst v') w) : wpList P ops Q (o :: rest) a w := by
  refine wpList_plain hgd fun K hK => ?_
  unfold Oper.wp execOp
  simp only [ho, Sem.run_bind, Sem.run_pure, Result.andThen_ok, hrun]
  exact hK _ _ h
theorem exec_sliceAt {P : Program} {w : World} {o : Oper} {ev : Operand → Value} (t : TypeId) (x : Operand) (lo hi mx : Option Operand)
    (ho : o.op = .slice t x lo hi mx) (v' : Value) (hrun : (Instr.sliceAt t (ev x) (lo.map ev) (hi.map ev) (mx.map ev)).run P w = .ok v' w) : (execOp ev o).run P w = .ok (.value v') w := by
  unfold execOp
  simp only [ho, Sem.run_bind, Sem.run_pure, Result.andThen_ok, hrun]
theorem step_append_any {P : Program} {ops : Array Oper} {o : Oper} {a : Act} {w : World} {K : Act → World → Prop} {Q : Exit → Act → World → Prop} {E : Prop}
    (hgd : o.guard = none) (s x : Operand) (t : TypeId)
    (ho : o.op = .call { callee := .builtin .append, args := #[s, x], argTypes := #[t, t] })
    (base : Nat) (e : TypeId) (i : TypeInfo) (z : Value) (size bytes : Nat) (ht : P.underlying t = some (.slice e)) (hi : P.info? e = some i) (hz : i.zero = some z)
    (hsize : i.size = size) (hby : i.bytes = bytes) (hzs : z.cells.size = size) (hsz : 0 < size)
    (v : Value) (n : Nat) (xs : List Value) (hs : a.eval s = v) (hown : w.ownsRow base e size v n xs)
    (ad : Option Addr) (m c : Nat) (news : List Value) (hx : a.eval x = .slice ad m c) (hl : news.length = m * size) (hnews : ∀ j u, news[j]? = some u → ∃ p, ad = some p ∧ w.cell? (p.add j) = some u) (h1 : ∀ u ∈ news, u.oneCell' = true)
    (h63 : n + m ≤ maxLen) (hbytes : (n + m) * bytes ≤ 140737488355328) (hbase : base ≤ w.heap.size)
    (h : ∀ v' w', w'.ownsRow base e size v' (n + m) (xs ++ news) → w.grownBy w' v.ownBlock → K (a.put o.dst v') w') :
    if Region.wanted o (yielded ops a.tmps) = true then Oper.wp P o a w K Q else E := by
  have hw : Region.wanted o (yielded ops a.tmps) = true := by simp [Region.wanted, hgd]
  rw [if_pos hw]
  obtain ⟨v', w', hr, h2, h3⟩ := run_append_any (P := P) w base t o.type e i z size bytes ht hi hz hsize hby hzs hsz v n xs hown ad m c news hl hnews h1 h63 hbytes hbase
  unfold Oper.wp execOp
  simp only [ho, resolve, invoke, builtin, Sem.run_bind, Sem.run_pure, Result.andThen_ok, List.map_toArray, List.map_cons, List.map_nil, hs, hx, hr]
  exact h v' w' h2 h3
theorem owns_cell {w : World} {base n s : Nat} {e : TypeId} {a : Option Addr} {c : Nat} {xs : List Value} (h : w.ownsRow base e s (.slice a n c) n xs) : (a = none ∧ n = 0 ∧ c = 0 ∧ xs = []) ∨ ∃ g, a = some ⟨g, 0, none⟩ ∧ n ≤ c ∧ base ≤ g ∧ g < w.heap.size ∧ xs.length = n * s ∧ ∀ j u, xs[j]? = some u → w.cell? ⟨g, j, none⟩ = some u := by
  have hl := h.1
  rcases h.2 with ⟨h1, h2⟩ | ⟨g, cap, cur, h1, hg, hh, hnc, hcm, hcs, htk⟩
  · simp only [Value.slice.injEq] at h1
    obtain ⟨rfl, rfl, rfl⟩ := h1
    rw [Nat.zero_mul] at hl
    exact Or.inl ⟨rfl, rfl, rfl, List.eq_nil_of_length_eq_zero hl⟩
  · simp only [Value.slice.injEq] at h1
    obtain ⟨rfl, -, rfl⟩ := h1
    refine Or.inr ⟨g, rfl, hnc, hg, blk_lt hh, hl, fun j u hu => ?_⟩
    rw [← htk, List.getElem?_take] at hu
    split at hu
    · rw [cell_of_row _ _ _ _ _ _ hh, ← Array.getElem?_toList]; exact hu
    · cases hu
theorem slice_low {w : World} {base n s m : Nat} {e t : TypeId} {a : Option Addr} {c : Nat} {xs : List Value} (ht : Try.prog.underlying t = some (.slice e)) (he : Try.prog.elem t = e) (hsz : ∀ W, (sizeOf e).run Try.prog W = .ok s W) (h : w.ownsRow base e s (.slice a n c) n xs) (hm : m ≤ n) :
    ∃ a1 c1, (∀ W, (Instr.sliceAt t (.slice a n c) (some (.int .i64 (m : Int))) none none).run Try.prog W = .ok (.slice a1 (n - m) c1) W) ∧ ∀ (w' : World), Below w.heap.size w w' → ∀ j u, (xs.drop (m * s))[j]? = some u → ∃ p, a1 = some p ∧ w'.cell? (p.add j) = some u := by
  refine ⟨if c = m then a else a.map (·.add (m * s)), c - m, fun W => ?_, fun w' hb j u hu => ?_⟩
  · rw [run_sliceAt_slice (t := t) (h := by rw [he]; exact ht), run_slice_l (t := t) (ht := by rw [he]; exact ht) (h0 := by omega) (h1 := by omega), he, hsz]
    simp only [Result.andThen_ok, sliced, Int.toNat_natCast]
  · rw [List.getElem?_drop] at hu
    rcases owns_cell h with ⟨rfl, rfl, rfl, rfl⟩ | ⟨g, rfl, hnc, hg, hgl, hl, hc⟩
    · simp at hu
    · have hlt := (List.getElem?_eq_some_iff.1 hu).1
      have hne : c ≠ m := by
        intro e
        have : n = m := by omega
        rw [hl, this] at hlt
        omega
      rw [if_neg hne]
      refine ⟨_, rfl, ?_⟩
      show w'.cell? (((⟨g, 0, none⟩ : Addr).add (m * s)).add j) = some u
      rw [Addr.add_mid, Addr.add_mid, Nat.zero_add]
      exact (hb.cell (p := ⟨g, m * s + j, none⟩) hgl).trans (hc _ _ hu)
theorem slice_high {w : World} {base n s m : Nat} {e t : TypeId} {a : Option Addr} {c : Nat} {xs : List Value} (ht : Try.prog.underlying t = some (.slice e)) (he : Try.prog.elem t = e) (hsz : ∀ W, (sizeOf e).run Try.prog W = .ok s W) (h : w.ownsRow base e s (.slice a n c) n xs) (hm : m ≤ n) :
    ∃ a1 c1, (∀ W, (Instr.sliceAt t (.slice a n c) none (some (.int .i64 (m : Int))) none).run Try.prog W = .ok (.slice a1 m c1) W) ∧ ∀ (w' : World), Below w.heap.size w w' → ∀ j u, (xs.take (m * s))[j]? = some u → ∃ p, a1 = some p ∧ w'.cell? (p.add j) = some u := by
  have hnc : n ≤ c := by
    rcases owns_cell h with ⟨rfl, rfl, rfl, rfl⟩ | ⟨g, rfl, hnc, _⟩
    · exact Nat.le_refl _
    · exact hnc
  refine ⟨if c = 0 then a else a.map (·.add (0 * s)), c, fun W => ?_, fun w' hb j u hu => ?_⟩
  · rw [run_sliceAt_slice (t := t) (h := by rw [he]; exact ht), run_slice_h (t := t) (ht := by rw [he]; exact ht) (h0 := by omega) (h2 := by omega), he, hsz]
    simp only [Result.andThen_ok, sliced, Int.toNat_natCast, Nat.sub_zero]
  · rw [List.getElem?_take] at hu
    split at hu
    · rename_i hj
      rcases owns_cell h with ⟨rfl, rfl, rfl, rfl⟩ | ⟨g, rfl, -, hg, hgl, hl, hc⟩
      · simp at hu
      · have hne : c ≠ 0 := by
          intro e
          have : m = 0 := by omega
          rw [this] at hj
          omega
        rw [if_neg hne]
        refine ⟨_, rfl, ?_⟩
        show w'.cell? (((⟨g, 0, none⟩ : Addr).add (0 * s)).add j) = some u
        rw [Addr.add_mid, Addr.add_mid, Nat.zero_add, Nat.zero_mul, Nat.zero_add]
        exact (hb.cell (p := ⟨g, j, none⟩) hgl).trans (hc _ _ hu)
    · cases hu
theorem owns_empty5 (w : World) : (w.alloc (.cells #[] 29)).ownsRow w.heap.size 29 5 (.slice (some ⟨w.heap.size, 0, none⟩) 0 0) 0 [] :=
  ⟨rfl, Or.inr ⟨w.heap.size, 0, #[], rfl, Nat.le_refl _, heap_alloc_new _ _, Nat.le_refl _, by unfold maxLen; omega, by decide, rfl⟩⟩
theorem flatQ_len (L : List CodE) : (L.flatMap cellsQ).length = L.length * 5 := by
  induction L with
  | nil => rfl
  | cons q L ih => rw [List.flatMap_cons, List.length_append, ih, cellsQ_len, List.length_cons]; omega
theorem flatQ_drop : ∀ (L : List CodE) (m : Nat), (L.flatMap cellsQ).drop (m * 5) = (L.drop m).flatMap cellsQ
  | L, 0 => by simp
  | [], m + 1 => by simp
  | q :: L, m + 1 => by
    rw [List.flatMap_cons, List.drop_succ_cons, List.drop_append, cellsQ_len, List.drop_eq_nil_of_le (by rw [cellsQ_len]; omega), List.nil_append, show (m + 1) * 5 - 5 = m * 5 by omega]
    exact flatQ_drop L m
theorem flatQ_take (L : List CodE) : ∀ (m : Nat), (L.flatMap cellsQ).take (m * 5) = (L.take m).flatMap cellsQ := by
  induction L with
  | nil => intro m; simp
  | cons q L ih =>
    intro m
    cases m with
    | zero => simp
    | succ m =>
      rw [List.flatMap_cons, List.take_succ_cons, List.flatMap_cons, List.take_append, cellsQ_len, List.take_of_length_le (by rw [cellsQ_len]; omega), show (m + 1) * 5 - 5 = m * 5 by omega, ih]
theorem oneQ (L : List CodE) : ∀ u ∈ L.flatMap cellsQ, u.oneCell' = true := fun u hu => by
  obtain ⟨q, -, hq⟩ := List.mem_flatMap.1 hu
  exact cellsQ_one q u hq
/-- insertion keeps the order -/
def KeyLe (p q : CodE) : Prop := ¬ newsB q.x < newsB p.x
theorem lt_le_trans {a b c : List UInt8} (h : a < b) (h2 : b ≤ c) : a < c := by
  rw [← List.not_le]
  intro h3
  exact absurd (List.le_trans h2 h3) (List.not_le.2 h)
theorem ins_sorted {L : List CodE} {q : CodE} {m : Nat} (hL : L.Pairwise KeyLe) (_hm : m ≤ L.length) (h1 : ∀ (j : Nat) (p : CodE), m ≤ j → L[j]? = some p → newsB q.x < newsB p.x) (h2 : m = 0 ∨ ∃ p, L[m - 1]? = some p ∧ ¬ newsB q.x < newsB p.x) : (L.take m ++ q :: L.drop m).Pairwise KeyLe := by
  rw [List.pairwise_append]
  refine ⟨hL.sublist (List.take_sublist _ _), List.pairwise_cons.2 ⟨fun p hp => ?_, hL.sublist (List.drop_sublist _ _)⟩, fun p hp y hy => ?_⟩
  · obtain ⟨j, hj⟩ := List.getElem?_of_mem hp
    rw [List.getElem?_drop] at hj
    have h3 := h1 _ p (by omega) hj
    exact fun h4 => absurd (List.lt_trans h3 h4) (List.lt_irrefl _)
  · obtain ⟨i, hi⟩ := List.getElem?_of_mem hp
    rw [List.getElem?_take] at hi
    split at hi
    · rename_i him
      have hil := (List.getElem?_eq_some_iff.1 hi).1
      have hpw := List.pairwise_iff_getElem.1 hL
      rcases List.mem_cons.1 hy with rfl | hy
      · rcases h2 with h2 | ⟨z, hz, h3⟩
        · omega
        · unfold KeyLe
          intro h4
          have hzl := (List.getElem?_eq_some_iff.1 hz).1
          by_cases e : i = m - 1
          · rw [e, hz] at hi; cases hi; exact h3 h4
          · have h5 := hpw i (m - 1) hil hzl (by omega)
            unfold KeyLe at h5
            rw [(List.getElem?_eq_some_iff.1 hi).2, (List.getElem?_eq_some_iff.1 hz).2] at h5
            rw [List.not_lt] at h5
            exact h3 (lt_le_trans h4 h5)
      · obtain ⟨j, hj⟩ := List.getElem?_of_mem hy
        rw [List.getElem?_drop] at hj
        have hjl := (List.getElem?_eq_some_iff.1 hj).1
        have h5 := hpw i (m + j) hil hjl (by omega)
        rw [(List.getElem?_eq_some_iff.1 hi).2, (List.getElem?_eq_some_iff.1 hj).2] at h5
        exact h5
    · cases hi
end Go.Proofs.Ytleiiedacachjaa
