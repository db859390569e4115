/- The plain law of CastAside. -/
import Derived.Test.YtleiiedacachjaaKRepL
import Derived.Laws.AppendOwn
namespace Go.Proofs.Ytleiiedacachjaa
theorem nodup_len {α : Type} [DecidableEq α] : ∀ {l xs : List α}, l.Nodup → (∀ x ∈ l, x ∈ xs) → l.length ≤ xs.length
  | [], _, _, _ => Nat.zero_le _
  | x :: r, xs, hn, hs => by
    rw [List.nodup_cons] at hn
    have hx : x ∈ xs := hs x (List.mem_cons_self ..)
    have h1 := nodup_len (l := r) (xs := xs.erase x) hn.2 (fun y hy => by
      refine (List.mem_erase_of_ne (fun e : y = x => hn.1 (by rw [← e]; exact hy))).2 (hs y (List.mem_cons_of_mem _ hy)))
    rw [List.length_erase_of_mem hx] at h1
    have h2 := List.length_pos_of_mem hx
    rw [List.length_cons]
    omega
theorem big_len {h : Int} {xs big : List NewsV} (hb : IsBig h xs big) : big.length ≤ xs.length := by
  have hn : (big.map (·.cast.id)).Nodup := by
    unfold List.Nodup
    rw [List.pairwise_map]
    exact hb.sorted.imp fun e => by omega
  have := nodup_len (xs := xs.map (·.cast.id)) hn (fun i hi => by
    obtain ⟨x, hx, rfl⟩ := List.mem_map.1 hi
    exact List.mem_map.2 ⟨x, (hb.mem x hx).1, rfl⟩)
  rwa [List.length_map, List.length_map] at this
theorem big_drop {h : Int} {x : NewsV} {xs big : List NewsV} (hb : IsBig h (x :: xs) big) (hx : ∀ y ∈ xs, y.cast.id ≠ x.cast.id) : IsBig h xs (big.filter fun y => decide (y.cast.id ≠ x.cast.id)) := by
  refine ⟨hb.sorted.filter _, fun y hy => ?_, fun y hy hc => ?_⟩
  · rw [List.mem_filter, decide_eq_true_eq] at hy
    obtain ⟨h1, h2, h3⟩ := hb.mem y hy.1
    refine ⟨?_, h2, fun z hz hcz hid => h3 z (List.mem_cons_of_mem _ hz) hcz hid⟩
    rcases List.mem_cons.1 h1 with e | h4
    · exact absurd (congrArg (·.cast.id) e) hy.2
    · exact h4
  · obtain ⟨z, hz, hid⟩ := hb.all y (List.mem_cons_of_mem _ hy) hc
    refine ⟨z, List.mem_filter.2 ⟨hz, ?_⟩, hid⟩
    rw [decide_eq_true_eq, hid]
    exact hx y hy
theorem keep_all {big : List NewsV} (hl : big.length ≤ 32) : keepN big = big.filter fun x => decide (x.kind ≠ 2) :=
  List.take_of_length_le (Nat.le_trans (List.length_filter_le _ _) hl)
/-- at most one element has an id -/
theorem one_id {l : List NewsV} {t : Int} (hs : l.Pairwise fun a b => a.cast.id < b.cast.id) : (l.filter fun y => decide (y.cast.id ≠ t)).length + (if l.any (fun y => decide (y.cast.id = t)) then 1 else 0) = l.length := by
  induction l with
  | nil => rfl
  | cons a r ih =>
    rw [List.pairwise_cons] at hs
    have h1 := ih hs.2
    by_cases e : a.cast.id = t
    · have hr : r.any (fun y => decide (y.cast.id = t)) = false := by
        rw [List.any_eq_false]
        intro y hy
        have := hs.1 y hy
        simp only [decide_eq_true_eq]
        omega
      rw [hr] at h1
      simp [e]
      simpa using h1
    · simp [e] at h1 ⊢
      rw [← h1]
      omega
structure AsideL (h : Int) (x : NewsV) (big1 big2 : List NewsV) : Prop where
  rest : (keepN big2).filter (fun y => decide (y.cast.id ≠ x.cast.id)) = keepN big1
  len : (((keepN big2).length : Int) = ((keepN big1).length : Int) + 1) ↔ (x.known ≤ h ∧ 0 ≤ x.kind ∧ x.kind < 2)
  few : (keepN big2).length ≤ 32
theorem aside_law {h : Int} {x : NewsV} {xs big1 big2 : List NewsV} (hI : ∀ y ∈ xs, NewsI y) (hl : xs.length ≤ 30) (hx : ∀ y ∈ xs, y.cast.id ≠ x.cast.id) (h1 : IsBig h xs big1) (h2 : IsBig h (x :: xs) big2) : AsideL h x big1 big2 := by
  have hd := big_drop h2 hx
  have e1 : big1 = big2.filter fun y => decide (y.cast.id ≠ x.cast.id) := big_unique hI hI (fun _ _ => Iff.rfl) h1 hd
  have l2 := big_len h2
  rw [List.length_cons] at l2
  have l1 := big_len h1
  have hrest : (keepN big2).filter (fun y => decide (y.cast.id ≠ x.cast.id)) = keepN big1 := by
    rw [keep_all (by omega), keep_all (by omega), e1, List.filter_filter, List.filter_filter]
    congr 1
    funext y
    exact Bool.and_comm _ _
  refine ⟨hrest, ?_, ?_⟩
  · have hone := one_id (l := keepN big2) (t := x.cast.id) (by rw [keep_all (by omega)]; exact h2.sorted.filter _)
    rw [hrest] at hone
    have hany : (keepN big2).any (fun y => decide (y.cast.id = x.cast.id)) = true ↔ (x.known ≤ h ∧ 0 ≤ x.kind ∧ x.kind < 2) := by
      rw [List.any_eq_true, keep_all (by omega)]
      constructor
      · rintro ⟨y, hy, hid⟩
        rw [decide_eq_true_eq] at hid
        rw [List.mem_filter, decide_eq_true_eq] at hy
        obtain ⟨m1, m2, _⟩ := h2.mem y hy.1
        have : y = x := by
          rcases List.mem_cons.1 m1 with e | m3
          · exact e
          · exact absurd hid (hx y m3)
        subst this
        obtain ⟨c1, c2, c3⟩ := m2
        have := hy.2
        exact ⟨c3, c1, by omega⟩
      · rintro ⟨c1, c2, c3⟩
        have hc : CountsN h x := ⟨c2, by omega, c1⟩
        obtain ⟨z, hz, hid⟩ := h2.all x (List.mem_cons_self ..) hc
        have hzx : z = x := by
          rcases List.mem_cons.1 (h2.mem z hz).1 with e | m3
          · exact e
          · exact absurd hid (hx z m3)
        subst hzx
        refine ⟨z, List.mem_filter.2 ⟨hz, ?_⟩, ?_⟩
        · rw [decide_eq_true_eq]; omega
        · rw [decide_eq_true_eq]
    rw [← hany]
    constructor
    · intro e
      cases hb : (keepN big2).any (fun y => decide (y.cast.id = x.cast.id)) with
      | true => rfl
      | false => rw [hb] at hone; simp only [Bool.false_eq_true, if_false] at hone; omega
    · intro e
      rw [e] at hone
      simp only [if_true] at hone
      omega
  · rw [keep_all (by omega)]
    exact Nat.le_trans (List.length_filter_le _ _) (by omega)
open Go.RowKit in
theorem ownsK_at {base : Nat} {v : Value} {w : World} {e : TypeId} {E : List Ent} (h : w.ownsRow base e 3 v E.length (E.flatMap cellsK)) : ∃ a c, v = .slice a E.length c ∧ ∀ (i : Nat) (q : Ent), E[i]? = some q → ∃ g, a = some ⟨g, 0, none⟩ ∧ base ≤ g ∧ g < w.heap.size ∧ w.rangeAt g (0 + i * 3) (cellsK q) := by
  rcases h.2 with ⟨rfl, h0⟩ | ⟨g, cap, cur, rfl, hg, hh, hnc, hcm, hcs, htk⟩
  · exact ⟨none, 0, by rw [h0], fun i q hq => by rw [List.eq_nil_of_length_eq_zero h0] at hq; simp at hq⟩
  · refine ⟨_, _, rfl, fun i q hq => ⟨g, rfl, hg, blk_lt hh, fun j u hu => ?_⟩⟩
    have h1 := flat_get E i q hq j u hu
    rw [← htk, List.getElem?_take] at h1
    split at h1
    · rw [Nat.zero_add, cell_of_row _ _ _ _ _ _ hh, ← Array.getElem?_toList]
      exact h1
    · cases h1
/-- what is left of a list when those of one forecast are taken out -/
def restE (t : Int) (E : List Ent) : List Ent := E.filter fun q => decide (q.1.cast.id ≠ t)
theorem rest_step {t : Int} {E : List Ent} {k : Nat} {q : Ent} (hq : E[k]? = some q) : restE t (E.take (k + 1)) = restE t (E.take k) ++ (if q.1.cast.id ≠ t then [q] else []) := by
  unfold restE
  rw [List.take_add_one, hq, Option.toList_some, List.filter_append]
  congr 1
  by_cases hc : q.1.cast.id ≠ t
  · rw [if_pos hc, List.filter_cons_of_pos (by simpa using hc), List.filter_nil]
  · rw [if_neg hc, List.filter_cons_of_neg (by simpa using hc), List.filter_nil]
theorem rest_casts {t : Int} {E : List Ent} {l2 l1 : List NewsV} (h : E.map (·.1) = l2) (h2 : l2.filter (fun y => decide (y.cast.id ≠ t)) = l1) : ((restE t E).map fun q => q.1.cast) = l1.map (·.cast) := by
  subst h
  subst h2
  unfold restE
  rw [List.filter_map, List.map_map]
  rfl
open Go.RowKit in
theorem part_any {E : List Ent} {a : Option Addr} {w : World} (h : ∀ (i : Nat) (q : Ent), E[i]? = some q → ∃ b o, a = some ⟨b, o, none⟩ ∧ w.rangeAt b (o + i * 5) (cellsE q)) :
    ∀ j u, (E.flatMap cellsE)[j]? = some u → ∃ ad, a = some ad ∧ w.cell? (ad.add j) = some u := fun j u hj => by
  have hjl : j < E.length * 5 := by rw [← flatE_len]; exact (List.getElem?_eq_some_iff.1 hj).1
  obtain ⟨q, hq⟩ : ∃ q, E[j / 5]? = some q := ⟨_, List.getElem?_eq_getElem (by omega)⟩
  obtain ⟨b, o, rfl, -⟩ := h _ q hq
  have := part_cells (E := E) (w := w) (b := b) (o := o) (fun i q hq => by
    obtain ⟨b', o', e, h2⟩ := h i q hq
    cases e
    exact h2) 0 E (fun i q hq => by rw [Nat.zero_add]; exact hq) j u hj
  rw [Nat.zero_mul, Nat.add_zero] at this
  exact ⟨_, rfl, this⟩
theorem run_append_none {P : Program} {w : World} {t ty e : TypeId} {i : TypeInfo} (ht : P.underlying t = some (.slice e)) (hi : P.info? e = some i) (b : Option Addr) (n c c2 : Nat) (hn : n ≤ c) :
    (Builtin.append_ #[t, t] ty #[.slice b n c, .slice none 0 c2]).run P w = .ok (.slice b n c) w := by
  cases b <;> simp [Builtin.append_, run_underlying ht, sizeOf, typeInfo, hi, Builtin.lenOf, Builtin.firstCells, loadCells, storeCells, hn]
/-- append of a slice that may be nil -/
theorem run_append_any {P : Program} (w : World) (base : Nat) (t ty e : TypeId) (i : TypeInfo) (z : Value) (size bytes : Nat) (ht : P.underlying t = some (.slice e)) (hi : P.info? e = some i) (hz : i.zero = some z)
    (hsize : i.size = size) (hby : i.bytes = bytes) (hzs : z.cells.size = size) (hsz : 0 < size)
    (v : Value) (n : Nat) (xs : List Value) (hown : w.ownsRow base e size v n xs)
    (a : Option Addr) (m c : Nat) (news : List Value) (hl : news.length = m * size) (hnews : ∀ j u, news[j]? = some u → ∃ ad, a = some ad ∧ w.cell? (ad.add j) = some u) (h1 : ∀ u ∈ news, u.oneCell' = true)
    (h63 : n + m ≤ maxLen) (hbytes : (n + m) * bytes ≤ 140737488355328) (hbase : base ≤ w.heap.size) :
    ∃ v' w', (Builtin.append_ #[t, t] ty #[v, .slice a m c]).run P w = .ok v' w' ∧ w'.ownsRow base e size v' (n + m) (xs ++ news) ∧ w.grownBy w' v.ownBlock := by
  cases a with
  | some ad =>
    obtain ⟨v', w', h2, h3, h4, _⟩ := run_append_own (P := P) w base t ty e i z size bytes ht hi hz hsize hby hzs hsz v n xs hown ad m c news hl (fun j u hu => by
      obtain ⟨ad', e, h⟩ := hnews j u hu
      cases e
      exact h) h1 h63 hbytes hbase
    exact ⟨v', w', h2, h3, h4⟩
  | none =>
    have hn : news = [] := by
      cases news with
      | nil => rfl
      | cons u r =>
        obtain ⟨ad, e, _⟩ := hnews 0 u rfl
        cases e
    subst hn
    have hm : m = 0 := by
      rcases Nat.eq_zero_or_pos m with h0 | h0
      · exact h0
      · have := Nat.mul_pos h0 hsz
        rw [← hl] at this
        exact absurd this (Nat.lt_irrefl 0)
    subst hm
    refine ⟨v, w, ?_, by simpa using hown, ⟨rfl, rfl, rfl, Nat.le_refl _, fun _ _ _ => rfl⟩⟩
    rcases hown.2 with ⟨rfl, _⟩ | ⟨g, cap, cur, rfl, _, _, hnc, _⟩
    · exact run_append_none ht hi none 0 0 c (Nat.le_refl _)
    · exact run_append_none ht hi _ n cap c hnc
theorem wpList_append_any {P : Program} (w : World) {ops : Array Oper} {rest : List Oper} {o : Oper} {a : Act} {Q : Exit → Act → World → Prop} (hgd : o.guard = none) (s x : Operand) (t : TypeId)
    (ho : o.op = .call { callee := .builtin .append, args := #[s, x], argTypes := #[t, t] })
    (base : Nat) (e : TypeId) (i : TypeInfo) (z : Value) (size bytes : Nat) (ht : P.underlying t = some (.slice e)) (hi : P.info? e = some i) (hz : i.zero = some z)
    (hsize : i.size = size) (hby : i.bytes = bytes) (hzs : z.cells.size = size) (hsz : 0 < size)
    (v : Value) (n : Nat) (xs : List Value) (hs : a.eval s = v) (hown : w.ownsRow base e size v n xs)
    (ad : Option Addr) (m c : Nat) (news : List Value) (hx : a.eval x = .slice ad m c) (hl : news.length = m * size) (hnews : ∀ j u, news[j]? = some u → ∃ p, ad = some p ∧ w.cell? (p.add j) = some u) (h1 : ∀ u ∈ news, u.oneCell' = true)
    (h63 : n + m ≤ maxLen) (hbytes : (n + m) * bytes ≤ 140737488355328) (hbase : base ≤ w.heap.size)
    (h : ∀ v' w', w'.ownsRow base e size v' (n + m) (xs ++ news) → w.grownBy w' v.ownBlock → wpList P ops Q rest (a.put o.dst v') w') :
    wpList P ops Q (o :: rest) a w := by
  refine wpList_plain hgd fun K hK => ?_
  obtain ⟨v', w', hr, h2, h3⟩ := run_append_any (P := P) w base t o.type e i z size bytes ht hi hz hsize hby hzs hsz v n xs hown ad m c news hl hnews h1 h63 hbytes hbase
  unfold Oper.wp execOp
  simp only [ho, resolve, invoke, builtin, Sem.run_bind, Sem.run_pure, Result.andThen_ok, List.map_toArray, List.map_cons, List.map_nil, hs, hx, hr]
  exact hK _ _ (h v' w' h2 h3)
theorem owns_one (w : World) (q : Ent) : (w.alloc (.cells (cellsE q).toArray 29)).ownsRow w.heap.size 29 5 (.slice (some ⟨w.heap.size, 0, none⟩) 1 1) 1 (cellsE q) :=
  ⟨rfl, Or.inr ⟨w.heap.size, 1, (cellsE q).toArray, rfl, Nat.le_refl _, heap_alloc_new w _, Nat.le_refl _, by decide, rfl, rfl⟩⟩
end Go.Proofs.Ytleiiedacachjaa
