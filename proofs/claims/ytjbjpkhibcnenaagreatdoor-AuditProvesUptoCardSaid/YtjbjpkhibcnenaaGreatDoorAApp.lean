/- append of slices that came in or may be nil; lists of claims and of public data. -/
import Derived.Test.YtjbjpkhibcnenaaGreatDoorASmall
namespace Go.Proofs.YtjbjpkhibcnenaaGreatDoor
open Go.RowKit
theorem run_append_none {P : Program} {w : World} {t ty e : TypeId} {i : TypeInfo} (ht : P.underlying t = some (.slice e)) (hi : P.info? e = some i) (b : Option Addr) (n c c2 : Nat) (hn : n ≤ c) :
    (Builtin.append_ #[t, t] ty #[.slice b n c, .slice none 0 c2]).run P w = .ok (.slice b n c) w := by
  cases b <;> simp [Builtin.append_, run_underlying ht, sizeOf, typeInfo, hi, Builtin.lenOf, Builtin.firstCells, loadCells, storeCells, hn]
/-- append of a slice that may be nil -/
theorem run_append_any {P : Program} (w : World) (base : Nat) (t ty e : TypeId) (i : TypeInfo) (z : Value) (size bytes : Nat) (ht : P.underlying t = some (.slice e)) (hi : P.info? e = some i) (hz : i.zero = some z)
    (hsize : i.size = size) (hby : i.bytes = bytes) (hzs : z.cells.size = size) (hsz : 0 < size)
    (v : Value) (n : Nat) (xs : List Value) (hown : w.ownsRow base e size v n xs)
    (a : Option Addr) (m c : Nat) (news : List Value) (hl : news.length = m * size) (hnews : ∀ j u, news[j]? = some u → ∃ ad, a = some ad ∧ w.cell? (ad.add j) = some u) (h1 : ∀ u ∈ news, u.oneCell' = true)
    (h63 : n + m ≤ maxLen) (hbytes : (n + m) * bytes ≤ 140737488355328) (hbase : base ≤ w.heap.size) :
    ∃ v' w', (Builtin.append_ #[t, t] ty #[v, .slice a m c]).run P w = .ok v' w' ∧ w'.ownsRow base e size v' (n + m) (xs ++ news) ∧ w.grownBy w' v.ownBlock ∧ (v'.ownBlock = v.ownBlock ∨ v'.ownBlock = some w.heap.size) := by
  cases a with
  | some ad =>
    obtain ⟨v', w', h2, h3, h4, _, h6⟩ := run_append_own_at (P := P) w base t ty e i z size bytes ht hi hz hsize hby hzs hsz v n xs hown ad m c news hl (fun j u hu => by
      obtain ⟨ad', e, h⟩ := hnews j u hu
      cases e
      exact h) h1 h63 hbytes hbase
    exact ⟨v', w', h2, h3, h4, h6⟩
  | none =>
    have hn : news = [] := by
      cases news with
      | nil => rfl
      | cons u r =>
        obtain ⟨ad, e, _⟩ := hnews 0 u rfl
        cases e
    subst hn
    have hm : m = 0 := by
      rcases Nat.eq_zero_or_pos m with h0 | h0
      · exact h0
      · have := Nat.mul_pos h0 hsz
        rw [← hl] at this
        exact absurd this (Nat.lt_irrefl 0)
    subst hm
    refine ⟨v, w, ?_, by simpa using hown, ⟨rfl, rfl, rfl, Nat.le_refl _, fun _ _ _ => rfl⟩, Or.inl rfl⟩
    rcases hown.2 with ⟨rfl, _⟩ | ⟨g, cap, cur, rfl, _, _, hnc, _⟩
    · exact run_append_none ht hi none 0 0 c (Nat.le_refl _)
    · exact run_append_none ht hi _ n cap c hnc
theorem wpList_append_any {P : Program} (w : World) {ops : Array Oper} {rest : List Oper} {o : Oper} {a : Act} {Q : Exit → Act → World → Prop} (hgd : o.guard = none) (s x : Operand) (t : TypeId)
    (ho : o.op = .call { callee := .builtin .append, args := #[s, x], argTypes := #[t, t] })
    (base : Nat) (e : TypeId) (i : TypeInfo) (z : Value) (size bytes : Nat) (ht : P.underlying t = some (.slice e)) (hi : P.info? e = some i) (hz : i.zero = some z)
    (hsize : i.size = size) (hby : i.bytes = bytes) (hzs : z.cells.size = size) (hsz : 0 < size)
    (v : Value) (n : Nat) (xs : List Value) (hs : a.eval s = v) (hown : w.ownsRow base e size v n xs)
    (ad : Option Addr) (m c : Nat) (news : List Value) (hx : a.eval x = .slice ad m c) (hl : news.length = m * size) (hnews : ∀ j u, news[j]? = some u → ∃ p, ad = some p ∧ w.cell? (p.add j) = some u) (h1 : ∀ u ∈ news, u.oneCell' = true)
    (h63 : n + m ≤ maxLen) (hbytes : (n + m) * bytes ≤ 140737488355328) (hbase : base ≤ w.heap.size)
    (h : ∀ v' w', w'.ownsRow base e size v' (n + m) (xs ++ news) → w.grownBy w' v.ownBlock → (v'.ownBlock = v.ownBlock ∨ v'.ownBlock = some w.heap.size) → wpList P ops Q rest (a.put o.dst v') w') :
    wpList P ops Q (o :: rest) a w := by
  refine wpList_plain hgd fun K hK => ?_
  obtain ⟨v', w', hr, h2, h3, h4⟩ := run_append_any (P := P) w base t o.type e i z size bytes ht hi hz hsize hby hzs hsz v n xs hown ad m c news hl hnews h1 h63 hbytes hbase
  unfold Oper.wp execOp
  simp only [ho, resolve, invoke, builtin, Sem.run_bind, Sem.run_pure, Result.andThen_ok, List.map_toArray, List.map_cons, List.map_nil, hs, hx, hr]
  exact hK _ _ (h v' w' h2 h3 h4)
theorem step_append_any {P : Program} {ops : Array Oper} {o : Oper} {a : Act} {w : World} {K : Act → World → Prop} {Q : Exit → Act → World → Prop} {E : Prop}
    (hgd : o.guard = none) (s x : Operand) (t : TypeId)
    (ho : o.op = .call { callee := .builtin .append, args := #[s, x], argTypes := #[t, t] })
    (base : Nat) (e : TypeId) (i : TypeInfo) (z : Value) (size bytes : Nat) (ht : P.underlying t = some (.slice e)) (hi : P.info? e = some i) (hz : i.zero = some z)
    (hsize : i.size = size) (hby : i.bytes = bytes) (hzs : z.cells.size = size) (hsz : 0 < size)
    (v : Value) (n : Nat) (xs : List Value) (hs : a.eval s = v) (hown : w.ownsRow base e size v n xs)
    (ad : Option Addr) (m c : Nat) (news : List Value) (hx : a.eval x = .slice ad m c) (hl : news.length = m * size) (hnews : ∀ j u, news[j]? = some u → ∃ p, ad = some p ∧ w.cell? (p.add j) = some u) (h1 : ∀ u ∈ news, u.oneCell' = true)
    (h63 : n + m ≤ maxLen) (hbytes : (n + m) * bytes ≤ 140737488355328) (hbase : base ≤ w.heap.size)
    (h : ∀ v' w', w'.ownsRow base e size v' (n + m) (xs ++ news) → w.grownBy w' v.ownBlock → (v'.ownBlock = v.ownBlock ∨ v'.ownBlock = some w.heap.size) → K (a.put o.dst v') w') :
    if Region.wanted o (yielded ops a.tmps) = true then Oper.wp P o a w K Q else E := by
  have hw : Region.wanted o (yielded ops a.tmps) = true := by simp [Region.wanted, hgd]
  rw [if_pos hw]
  obtain ⟨v', w', hr, h2, h3, h4⟩ := run_append_any (P := P) w base t o.type e i z size bytes ht hi hz hsize hby hzs hsz v n xs hown ad m c news hl hnews h1 h63 hbytes hbase
  unfold Oper.wp execOp
  simp only [ho, resolve, invoke, builtin, Sem.run_bind, Sem.run_pure, Result.andThen_ok, List.map_toArray, List.map_cons, List.map_nil, hs, hx, hr]
  exact h v' w' h2 h3 h4
theorem owns_cell {w : World} {base n s : Nat} {e : TypeId} {a : Option Addr} {c : Nat} {xs : List Value} (h : w.ownsRow base e s (.slice a n c) n xs) : (a = none ∧ n = 0 ∧ c = 0 ∧ xs = []) ∨ ∃ g, a = some ⟨g, 0, none⟩ ∧ n ≤ c ∧ base ≤ g ∧ g < w.heap.size ∧ xs.length = n * s ∧ ∀ j u, xs[j]? = some u → w.cell? ⟨g, j, none⟩ = some u := by
  have hl := h.1
  rcases h.2 with ⟨h1, h2⟩ | ⟨g, cap, cur, h1, hg, hh, hnc, hcm, hcs, htk⟩
  · simp only [Value.slice.injEq] at h1
    obtain ⟨rfl, rfl, rfl⟩ := h1
    rw [Nat.zero_mul] at hl
    exact Or.inl ⟨rfl, rfl, rfl, List.eq_nil_of_length_eq_zero hl⟩
  · simp only [Value.slice.injEq] at h1
    obtain ⟨rfl, -, rfl⟩ := h1
    refine Or.inr ⟨g, rfl, hnc, hg, blk_lt hh, hl, fun j u hu => ?_⟩
    rw [← htk, List.getElem?_take] at hu
    split at hu
    · rw [cell_of_row _ _ _ _ _ _ hh, ← Array.getElem?_toList]; exact hu
    · cases hu

theorem larg_news {w : World} {a : Option Addr} {n c : Nat} {l : List CV} (h : LArg RC 8 (.slice a n c) l w) : ∀ j u, (flC l)[j]? = some u → ∃ ad, a = some ad ∧ w.cell? (ad.add j) = some u := fun j u hj => by
  have hjl : j < l.length * 8 := by rw [← flC_len]; exact (List.getElem?_eq_some_iff.1 hj).1
  obtain ⟨x, hx⟩ : ∃ x, l[j / 8]? = some x := ⟨_, List.getElem?_eq_getElem (by omega)⟩
  obtain ⟨b, o, cs, rfl, -, -, hrg, hcs, -⟩ := h.at hx
  subst hcs
  obtain ⟨v, hv⟩ : ∃ v, (cellsC x)[j % 8]? = some v := ⟨_, List.getElem?_eq_getElem (by have : (cellsC x).length = 8 := rfl; rw [this]; exact Nat.mod_lt _ (by decide))⟩
  have h1 := flatC_get l (j / 8) x hx (j % 8) v hv
  have e : j / 8 * 8 + j % 8 = j := by omega
  rw [e] at h1
  have h2 : (flC l)[j]? = some v := h1
  rw [h2] at hj
  have huv : v = u := by simpa using hj
  subst huv
  refine ⟨_, rfl, ?_⟩
  have h3 := hrg (j % 8) v hv
  rw [Nat.add_assoc, e] at h3
  rw [Addr.add_mid]
  exact h3
theorem own_news {w : World} {base n s : Nat} {e : TypeId} {v : Value} {xs : List Value} (h : w.ownsRow base e s v n xs) : ∃ a c, v = .slice a n c ∧ ∀ j u, xs[j]? = some u → ∃ ad, a = some ad ∧ w.cell? (ad.add j) = some u := by
  obtain ⟨a, m, c, rfl⟩ := own_slice h
  have hm : m = n := by
    rcases h.2 with ⟨h1, h2⟩ | ⟨g, cap, cur, h1, _⟩
    · simp only [Value.slice.injEq] at h1
      omega
    · simp only [Value.slice.injEq] at h1
      omega
  subst hm
  refine ⟨a, c, rfl, fun j u hj => ?_⟩
  rcases owns_cell h with ⟨-, -, -, rfl⟩ | ⟨g, rfl, -, -, -, -, h2⟩
  · simp at hj
  · refine ⟨_, rfl, ?_⟩
    rw [Addr.add_mid, Nat.zero_add]
    exact h2 j u hj
def cellsQ (q : QV) : List Value := [.int .i64 q.1.hour, q.2, .int .i64 q.1.mouth.lo, .int .i64 q.1.mouth.hi]
def flQ (zs : List QV) : List Value := zs.flatMap cellsQ
theorem flQ_len (l : List QV) : (flQ l).length = l.length * 4 := by
  unfold flQ
  induction l with
  | nil => rfl
  | cons s l ih =>
    have h8 : (cellsQ s).length = 4 := rfl
    rw [List.flatMap_cons, List.length_append, ih, h8, List.length_cons]
    omega
theorem flQ_get : ∀ (l : List QV) (k : Nat) (x : QV), l[k]? = some x → ∀ j v, (cellsQ x)[j]? = some v → (flQ l)[k * 4 + j]? = some v
  | [], k, x, h, _, _, _ => by simp at h
  | y :: l, 0, x, h, j, v, hj => by
    simp only [List.getElem?_cons_zero, Option.some.injEq] at h
    subst h
    have hl := (List.getElem?_eq_some_iff.1 hj).1
    unfold flQ
    rw [List.flatMap_cons, Nat.zero_mul, Nat.zero_add, List.getElem?_append_left hl, hj]
  | y :: l, k + 1, x, h, j, v, hj => by
    have h8 : (cellsQ y).length = 4 := rfl
    unfold flQ
    rw [List.flatMap_cons, List.getElem?_append_right (by rw [h8]; omega), h8]
    have e : (k + 1) * 4 + j - 4 = k * 4 + j := by omega
    rw [e]
    exact flQ_get l k x (by simpa using h) j v hj
theorem flQ_one {l : List QV} (hq : ∀ q ∈ l, q.2.oneCell' = true) : ∀ u ∈ flQ l, u.oneCell' = true := fun u hu => by
  unfold flQ at hu
  obtain ⟨q, h1, h2⟩ := List.mem_flatMap.1 hu
  unfold cellsQ at h2
  simp only [List.mem_cons, List.not_mem_nil, or_false] at h2
  rcases h2 with rfl | rfl | rfl | rfl
  · rfl
  · exact hq q h1
  · rfl
  · rfl
theorem flC_one (l : List CV) : ∀ u ∈ flC l, u.oneCell' = true := fun u hu => by
  unfold flC at hu
  obtain ⟨q, h1, h2⟩ := List.mem_flatMap.1 hu
  unfold cellsC at h2
  simp only [List.mem_cons, List.not_mem_nil, or_false] at h2
  rcases h2 with rfl | rfl | rfl | rfl | rfl | rfl | rfl | rfl <;> rfl
/-- what is known of an element of public data -/
def QOk (q : QV) (w : World) : Prop := I64 q.1.hour ∧ SpI q.1.mouth ∧ LArg RSpan 2 q.2 q.1.net w
theorem larg_ownQ {c : World} {base n : Nat} {v : Value} {zs : List QV} (h : c.ownsRow base 55 4 v n (flQ zs)) (hx : ∀ z ∈ zs, QOk z c) : LArg RPublic 4 v (zs.map (·.1)) c := by
  have hn : n = zs.length := by have := h.1; rw [flQ_len] at this; omega
  subst hn
  have hlen : (zs.map (·.1)).length = zs.length := List.length_map ..
  rcases h.2 with ⟨rfl, h0⟩ | ⟨g, cap, cur, rfl, _, hg, hc, hm, hs, ht⟩
  · refine ⟨none, 0, by rw [hlen, h0], by omega, by unfold maxLen; omega, fun j x hj => ?_⟩
    have : zs = [] := List.eq_nil_of_length_eq_zero h0
    subst this
    simp at hj
  · refine ⟨_, _, by rw [hlen], by omega, hm, fun j x hj => ?_⟩
    rw [List.getElem?_map, Option.map_eq_some_iff] at hj
    obtain ⟨z, hz, rfl⟩ := hj
    obtain ⟨h1, h2, h3⟩ := hx z (List.mem_of_getElem? hz)
    refine ⟨g, 0, cellsQ z, rfl, blk_lt hg, rfl, ?_, z.2, rfl, h1, h2.1, h2.2, h3⟩
    intro i u hi
    have h1 := cell_of_row _ _ (0 + j * 4 + i) _ _ _ hg
    rw [← Array.getElem?_toList] at h1
    refine h1.trans ?_
    have h3 := flQ_get zs j z hz i u hi
    rw [← ht, List.getElem?_take] at h3
    split at h3
    · rw [Nat.zero_add]; exact h3
    · cases h3
theorem rev_snoc {α : Type} {l : List α} {k : Nat} {x : α} (h : l[k]? = some x) : (l.take (k + 1)).reverse = x :: (l.take k).reverse := by
  rw [List.take_add_one, h]
  simp
/-- a slice of claims of the call's own, beside the public keys -/
structure AG (wb : World) (bp : Nat) (v : Value) (l : List CV) (c : World) : Prop where
  own : c.ownsRow wb.heap.size 63 8 v l.length (flC l)
  ne : v.ownBlock ≠ some bp
  row : c.heap[bp]? = some (.cells #[.int .i64 (pk 0), .int .i64 (pk 1), .int .i64 (pk 2)] 3 (0, 0))
theorem AG.app {wb : World} {bp n : Nat} {v v' : Value} {l m : List CV} {c c' : World} (h : AG wb bp v l c) (ho : c'.ownsRow wb.heap.size 63 8 v' n (flC l ++ flC m)) (hg : c.grownBy c' v.ownBlock) (hat : v'.ownBlock = v.ownBlock ∨ v'.ownBlock = some c.heap.size) : AG wb bp v' (l ++ m) c' := by
  have e : flC l ++ flC m = flC (l ++ m) := by unfold flC; rw [List.flatMap_append]
  have hn : n = (l ++ m).length := by
    have := ho.1
    rw [e, flC_len] at this
    omega
  rw [e, hn] at ho
  refine ⟨ho, ?_, (hg.block bp (blk_lt h.row) (fun e => h.ne e.symm)).trans h.row⟩
  rcases hat with e2 | e2
  · rw [e2]; exact h.ne
  · rw [e2]
    intro e3
    simp only [Option.some.injEq] at e3
    have := blk_lt h.row
    omega
theorem own_zero {w : World} {base : Nat} {e : TypeId} {s : Nat} (h : base ≤ w.heap.size) : (w.alloc (.cells #[] e)).ownsRow base e s (.slice (some ⟨w.heap.size, 0, none⟩) 0 0) 0 [] := World.ownsRow_made w #[] 0 h (Nat.zero_le _) (by simp)
/-- different hours -/
def Differ (pubs : List PublicV) (i : Nat) : Prop := ∀ (k m : Nat) (p q : PublicV), k < m → m < i → pubs[k]? = some p → pubs[m]? = some q → p.hour ≠ q.hour
theorem differ_nodup {pubs : List PublicV} (h : Differ pubs pubs.length) : (pubs.map (·.hour)).Nodup := by
  rw [List.Nodup, List.pairwise_iff_getElem]
  intro i j hi hj hij
  rw [List.length_map] at hi hj
  rw [List.getElem_map, List.getElem_map]
  exact h i j _ _ hij hj (List.getElem?_eq_getElem hi) (List.getElem?_eq_getElem hj)
end Go.Proofs.YtjbjpkhibcnenaaGreatDoor

