/- The reference's wardens: New, Raise, Last, Awaits, Ack. -/
import Derived.Test.YthijckdablkofaaDRefLaw
import Derived.Test.YthijckdablkofaaDAsideW
import Derived.Maps.AppendAt
namespace Go.Proofs.Ythijckdablkofaa
open Go.RowKit
def roCl (x : RO) : List Value := [.int .i64 x.town, .int .i64 x.level, .int .i64 x.hour, .bool x.done]
def roRow (l : List RO) : List Value := l.flatMap roCl
theorem roRow_len : ∀ l : List RO, (roRow l).length = l.length * 4
  | [] => rfl
  | x :: l => by
    have h := roRow_len l
    have e : roRow (x :: l) = roCl x ++ roRow l := by simp [roRow]
    rw [e, List.length_append, h]
    simp [roCl]
    omega
theorem roRow_get : ∀ (l : List RO) (k : Nat) (x : RO), l[k]? = some x → ∀ j v, (roCl x)[j]? = some v → (roRow l)[k * 4 + j]? = some v
  | [], k, x, h, j, v, hj => by simp at h
  | y :: l, 0, x, h, j, v, hj => by
    simp only [List.getElem?_cons_zero, Option.some.injEq] at h
    subst h
    have e : roRow (y :: l) = roCl y ++ roRow l := by simp [roRow]
    rw [e, Nat.zero_mul, Nat.zero_add, List.getElem?_append_left]
    · exact hj
    · exact (List.getElem?_eq_some_iff.1 hj).1
  | y :: l, k + 1, x, h, j, v, hj => by
    simp only [List.getElem?_cons_succ] at h
    have e : roRow (y :: l) = roCl y ++ roRow l := by simp [roRow]
    have h3 : (roCl y).length = 4 := rfl
    rw [e, List.getElem?_append_right (by omega), h3, show (k + 1) * 4 + j - 4 = k * 4 + j by omega]
    exact roRow_get l k x h j v hj
/-- the reference's post q, in block qb and in a row of its own, all from base on -/
structure QAt (w : World) (qb base : Nat) (q : RS) : Prop where
  lo : base ≤ qb
  ex : ∃ v, w.heap[qb]? = some (.cells #[.int .i64 q.n, v] 58 (0, 0)) ∧ w.ownsRow base 62 4 v q.l.length (roRow q.l)
theorem QAt.lt {w : World} {qb base : Nat} {q : RS} (h : QAt w qb base q) : qb < w.heap.size := by
  obtain ⟨v, h1, _⟩ := h.ex
  exact blk_lt h1
theorem QAt.below {w w' : World} {qb base : Nat} {q : RS} (h : QAt w qb base q) (hb : Below w.heap.size w w') : QAt w' qb base q := by
  obtain ⟨v, h1, h2⟩ := h.ex
  exact ⟨h.lo, v, blk_below h1 hb (blk_lt h1), owns_below h2 hb⟩
theorem QAt.mv {w w' : World} {qb base pb mb : Nat} {q : RS} (h : QAt w qb base q) (hv : Mv pb mb w w') (h1 : pb < base) (h2 : mb < base) : QAt w' qb base q := by
  obtain ⟨v, h3, h4⟩ := h.ex
  refine ⟨h.lo, v, (hv.block qb (blk_lt h3) (by have := h.lo; omega) (by have := h.lo; omega)).trans h3, ?_⟩
  refine ⟨h4.1, ?_⟩
  rcases h4.2 with hn | ⟨g, cap, cur, rfl, hb, hg, rest⟩
  · exact .inl hn
  · exact .inr ⟨g, cap, cur, rfl, hb, (hv.block g (Array.getElem?_eq_some_iff.1 hg).1 (by omega) (by omega)).trans hg, rest⟩
theorem QAt.drewN {w : World} {qb base : Nat} {q : RS} (h : QAt w qb base q) (n : Nat) : QAt (w.drewN n) qb base q := ⟨h.lo, h.ex⟩
/-- the row's cells -/
theorem QAt.open {w : World} {qb base : Nat} {q : RS} (h : QAt w qb base q) : ∃ a c, w.heap[qb]? = some (.cells #[.int .i64 q.n, .slice a q.l.length c] 58 (0, 0)) ∧ w.ownsRow base 62 4 (.slice a q.l.length c) q.l.length (roRow q.l) ∧
    ∀ j x, q.l[j]? = some x → ∃ b, a = some ⟨b, 0, none⟩ ∧ base ≤ b ∧ b < w.heap.size ∧ w.rangeAt b (j * 4) (roCl x) := by
  obtain ⟨v, h1, h2⟩ := h.ex
  have h2' := h2
  rcases h2.2 with ⟨rfl, h0⟩ | ⟨g, cap, cur, rfl, hb, hg, _⟩
  · refine ⟨none, 0, by rw [h0]; exact h1, by rw [h0] at h2 ⊢; exact h2, fun j x hj => ?_⟩
    have := (List.getElem?_eq_some_iff.1 hj).1
    omega
  · refine ⟨some ⟨g, 0, none⟩, cap, h1, h2', fun j x hj => ⟨g, rfl, hb, (Array.getElem?_eq_some_iff.1 hg).1, fun i u hi => ?_⟩⟩
    have hh := h2'.cells (g := g) rfl (j * 4 + i) u (roRow_get q.l j x hj i u hi)
    rw [Addr.add_mid, Nat.zero_add] at hh
    exact hh
theorem row2 {w : World} {p : Nat} {fr : Nat × Nat} {ty : TypeId} {a b : Value} (h : w.heap[p]? = some (.cells #[a, b] ty fr)) : w.cell? ⟨p, 0, none⟩ = some a ∧ w.cell? ⟨p, 1, none⟩ = some b :=
  ⟨(cell_of_row _ _ _ _ _ _ h).trans rfl, (cell_of_row _ _ _ _ _ _ h).trans rfl⟩
theorem rangeR {w : World} {b o : Nat} {x : RO} (h : w.rangeAt b o (roCl x)) : w.cell? ⟨b, o, none⟩ = some (.int .i64 x.town) ∧ w.cell? ⟨b, o + 1, none⟩ = some (.int .i64 x.level) ∧ w.cell? ⟨b, o + 2, none⟩ = some (.int .i64 x.hour) ∧ w.cell? ⟨b, o + 3, none⟩ = some (.bool x.done) :=
  ⟨h 0 _ rfl, h 1 _ rfl, h 2 _ rfl, h 3 _ rfl⟩
set_option maxRecDepth 100000 in
set_option maxHeartbeats 1000000 in
theorem rnew_none (n : Int) (hn : n < 1 ∨ 16 < n) (w : World) :
    Calls Try.prog 10 #[.int .i64 n] w fun e w' => e = .returned (.pointer none) ∧ w = w' := by
  by_cases h1 : n < 1
  · clear hn
    go_enter Try.func10, Try.ntmps10
    go_wp2_with fail
    go_ret
    exact ⟨rfl, rfl⟩
  · have h2 : 16 < n := by omega
    clear hn
    go_enter Try.func10, Try.ntmps10
    go_wp2_with fail
    go_ret
    exact ⟨rfl, rfl⟩
set_option maxRecDepth 100000 in
set_option maxHeartbeats 1000000 in
theorem rnew_any (n : Nat) (h1 : 1 ≤ n) (h2 : n ≤ 16) (w : World) :
    Calls Try.prog 10 #[.int .i64 n] w fun e w' => e = .returned (.pointer (some ⟨w.heap.size, 0, none⟩)) ∧ QAt w' w.heap.size w.heap.size ⟨n, []⟩ ∧ Below w.heap.size w w' := by
  have k1 : ¬ ((n : Int) < 1) := by omega
  have k2 : ¬ (16 < (n : Int)) := by omega
  go_enter Try.func10, Try.ntmps10
  go_wp2_with fail
  go_ret
  exact ⟨rfl, ⟨Nat.le_refl _, .slice none 0 0, heap_alloc_new w _, World.ownsRow_nil _ _ _ _⟩, (Below.refl _ _).alloc (Nat.le_refl _) _⟩
set_option maxRecDepth 100000 in
set_option maxHeartbeats 2000000 in
theorem rlast_any (qb base : Nat) (q : RS) (t : Int) (w : World) (hQ : QAt w qb base q) (hl : q.l.length ≤ 1000) :
    Calls Try.prog 25 #[.pointer (some ⟨qb, 0, none⟩), .int .i64 t] w fun e w' => e = .returned (.int .i64 (lastI t q.l)) ∧ w = w' := by
  obtain ⟨a, c, hrow, _, hel⟩ := hQ.open
  obtain ⟨r0, r1⟩ := row2 hrow
  have HEL := Lib.hid hel
  clear hrow hel hQ
  go_enter Try.func25, Try.ntmps25
  go_wp2_with fail
  go_loop [5] (fun i => ∃ k : Nat, k ≤ q.l.length ∧ i = .int .i64 ((k : Int) - 1) ∧ lastN t q.l = lastN t (q.l.take k)) (fun i => (intOf i + 1).toNat)
  case atStart => exact ⟨q.l.length, Nat.le_refl _, rfl, by rw [List.take_length]⟩
  case round =>
    obtain ⟨k, hk, rfl, hln⟩ := hrel
    have HLN := Lib.hid hln
    clear hln
    by_cases h0 : 0 < k
    · obtain ⟨x, hx⟩ : ∃ x, q.l[k - 1]? = some x := ⟨_, List.getElem?_eq_getElem (by omega)⟩
      obtain ⟨b, ha, _, _, hrg⟩ := HEL.out (k - 1) x hx
      subst ha
      have c0 := (rangeR hrg).1
      have htk : q.l.take k = q.l.take (k - 1) ++ [x] := by
        have := List.take_add_one (l := q.l) (i := k - 1)
        rw [show k - 1 + 1 = k by omega, hx] at this
        exact this
      have hsn := lastN_snoc t x (q.l.take (k - 1))
      rw [← htk, List.length_take, Nat.min_eq_left (by omega)] at hsn
      have HSN := Lib.hid hsn
      have q1 : 0 ≤ (k : Int) - 1 := by omega
      have q2 : 1 ≤ (k : Int) := by omega
      have q3 : ((k : Int) - 1).toNat = k - 1 := by omega
      have q4 : (k : Int) - 1 < q.l.length := by omega
      clear hx hrg htk hsn
      by_cases hxt : x.town = t
      · have T1 : (x.town == t) = true := by rw [beq_iff_eq]; exact hxt
        have HR : Hid (lastI t q.l = (k : Int) - 1) := Lib.hid (by unfold lastI; rw [HLN.out, HSN.out, if_pos hxt]; omega)
        clear hxt
        go_wp2_with fail
        go_ret
        exact ⟨by rw [HR.out]; rfl, rfl⟩
      · have T1 : (x.town == t) = false := by rw [beq_eq_false_iff_ne]; exact hxt
        have HR : Hid (lastN t q.l = lastN t (q.l.take (k - 1))) := Lib.hid (by rw [HLN.out, HSN.out, if_neg hxt])
        clear hxt
        go_wp2_with fail
        go_round
        case rel => exact ⟨k - 1, by omega, by first | rfl | (congr 1; omega), HR.out⟩
        case measure => simp [intOf]; omega
    · obtain rfl : k = 0 := by omega
      have HR : Hid (lastI t q.l = -1) := Lib.hid (by unfold lastI; rw [HLN.out]; rfl)
      go_wp2_with fail
      go_ret
      exact ⟨by rw [HR.out]; rfl, rfl⟩
/-- blocks of other types than the reference's are as they were -/
def Typ (w w' : World) : Prop := ∀ (p : Nat) (cs : Array Value) (t : TypeId) (fr : Nat × Nat), w.heap[p]? = some (.cells cs t fr) → t ≠ 58 → t ≠ 62 → w'.heap[p]? = some (.cells cs t fr)
theorem Typ.refl (w : World) : Typ w w := fun _ _ _ _ h _ _ => h
theorem Typ.below {w w1 w2 : World} (h : Typ w w1) (hb : Below w1.heap.size w1 w2) : Typ w w2 := fun p cs t fr h1 h2 h3 => blk_below (h p cs t fr h1 h2 h3) hb (blk_lt (h p cs t fr h1 h2 h3))
theorem Typ.own {w w1 w2 : World} {base size n : Nat} {v : Value} {xs : List Value} (h : Typ w w1) (ho : w1.ownsRow base 62 size v n xs) (hg : w1.grownBy w2 v.ownBlock) : Typ w w2 := fun p cs t fr h1 h2 h3 => by
  have h4 := h p cs t fr h1 h2 h3
  exact (hg.block p (blk_lt h4) (fun e => own_ne ho h4 h3 e.symm)).trans h4
theorem Typ.set {w w1 : World} {q j : Nat} {cs0 : Array Value} {fr0 : Nat × Nat} {v : Value} (h : Typ w w1) (hq : w1.heap[q]? = some (.cells cs0 58 fr0)) : Typ w (w1.setCell ⟨q, j, none⟩ v) := fun p cs t fr h1 h2 h3 => by
  have h4 := h p cs t fr h1 h2 h3
  rw [heap_setCell_other _ _ _ _ (show p ≠ q from fun e => ?_)]
  · exact h4
  · rw [e, hq] at h4
    simp only [Option.some.injEq, Obj.cells.injEq] at h4
    exact h2 h4.2.1.symm
theorem raiseR_no {s : RS} {t l h : Int} (hb : ¬ okRaise t l h) : raiseR s t l h = (0, s) := if_neg hb
theorem infoOr : ∃ i z, Try.prog.info? 62 = some i ∧ i.size = 4 ∧ i.zero = some z ∧ z.cells.size = 4 ∧ i.bytes ≤ 1024 := by
  have h : (Try.prog.info? 62).map (fun i => (i.size, i.zero.map (fun z => z.cells.size), decide (i.bytes ≤ 1024))) = some (4, some 4, true) := by kernel_rfl
  cases hi : Try.prog.info? 62 with
  | none => rw [hi] at h; cases h
  | some i =>
    rw [hi] at h
    simp only [Option.map_some, Option.some.injEq, Prod.mk.injEq, decide_eq_true_eq] at h
    obtain ⟨h1, h2, h3⟩ := h
    cases hz : i.zero with
    | none => rw [hz] at h2; cases h2
    | some z =>
      rw [hz] at h2
      exact ⟨i, z, rfl, h1, hz, by simpa using h2, h3⟩
theorem undOs : Try.prog.underlying 56 = some (.slice 62) := by kernel_rfl
set_option maxRecDepth 100000 in
set_option maxHeartbeats 2000000 in
theorem rraise_any (qb base : Nat) (q : RS) (t l h : Int) (w : World) (hQ : QAt w qb base q) (hl : q.l.length ≤ 1000) :
    Calls Try.prog 12 #[.pointer (some ⟨qb, 0, none⟩), .int .i64 t, .int .i64 l, .int .i64 h] w fun e w' => e = .returned (.int .i64 (raiseR q t l h).1) ∧ QAt w' qb base (raiseR q t l h).2 ∧ Below base w w' ∧ Typ w w' := by
  obtain ⟨a, c, hrow, hown, _⟩ := hQ.open
  obtain ⟨r0, r1⟩ := row2 hrow
  have f1 : w.frozen? ⟨qb, 1, none⟩ = false := frozen_of_row _ _ _ _ _ hrow
  have HQ := Lib.hid hQ
  have HRow := Lib.hid hrow
  have HOwn := Lib.hid hown
  clear hrow hQ hown
  by_cases k0 : t < 0
  · have HR := Lib.hid (raiseR_no (s := q) (t := t) (l := l) (h := h) (by unfold okRaise; omega))
    go_enter Try.func12, Try.ntmps12
    go_wp2_with fail
    go_ret
    exact ⟨by rw [HR.out]; rfl, by rw [HR.out]; exact HQ.out, Below.refl _ _, Typ.refl _⟩
  by_cases k1 : 40 ≤ t
  · have HR := Lib.hid (raiseR_no (s := q) (t := t) (l := l) (h := h) (by unfold okRaise; omega))
    go_enter Try.func12, Try.ntmps12
    go_wp2_with fail
    go_ret
    exact ⟨by rw [HR.out]; rfl, by rw [HR.out]; exact HQ.out, Below.refl _ _, Typ.refl _⟩
  by_cases k2 : l < 0
  · have HR := Lib.hid (raiseR_no (s := q) (t := t) (l := l) (h := h) (by unfold okRaise; omega))
    go_enter Try.func12, Try.ntmps12
    go_wp2_with fail
    go_ret
    exact ⟨by rw [HR.out]; rfl, by rw [HR.out]; exact HQ.out, Below.refl _ _, Typ.refl _⟩
  by_cases k3 : 3 < l
  · have HR := Lib.hid (raiseR_no (s := q) (t := t) (l := l) (h := h) (by unfold okRaise; omega))
    go_enter Try.func12, Try.ntmps12
    go_wp2_with fail
    go_ret
    exact ⟨by rw [HR.out]; rfl, by rw [HR.out]; exact HQ.out, Below.refl _ _, Typ.refl _⟩
  by_cases k4 : h < 0
  · have HR := Lib.hid (raiseR_no (s := q) (t := t) (l := l) (h := h) (by unfold okRaise; omega))
    go_enter Try.func12, Try.ntmps12
    go_wp2_with fail
    go_ret
    exact ⟨by rw [HR.out]; rfl, by rw [HR.out]; exact HQ.out, Below.refl _ _, Typ.refl _⟩
  by_cases k5 : 16777216 < h
  · have HR := Lib.hid (raiseR_no (s := q) (t := t) (l := l) (h := h) (by unfold okRaise; omega))
    go_enter Try.func12, Try.ntmps12
    go_wp2_with fail
    go_ret
    exact ⟨by rw [HR.out]; rfl, by rw [HR.out]; exact HQ.out, Below.refl _ _, Typ.refl _⟩
  have HR : Hid (raiseR q t l h = ((q.l.length : Int) + 1, ⟨q.n, q.l ++ [⟨t, l, h, false⟩]⟩)) := Lib.hid (if_pos (by unfold okRaise; omega))
  obtain ⟨ic, zc, hic, hsz, hzc, hcz, hbc⟩ := infoOr
  have hbq : base ≤ qb := HQ.out.lo
  have hql := HQ.out.lt
  have hnew : ∀ i u, (roCl ⟨t, l, h, false⟩)[i]? = some u → (w.alloc (.cells #[.int .i64 t, .int .i64 l, .int .i64 h, .bool false] 62)).cell? ((⟨w.heap.size, 0, none⟩ : Addr).add i) = some u := fun i u hi => by
    rw [Addr.add_mid, Nat.zero_add, cell_of_row _ _ _ _ _ _ (heap_alloc_new w (.cells #[.int .i64 t, .int .i64 l, .int .i64 h, .bool false] 62)), ← Array.getElem?_toList]
    exact hi
  have hone : ∀ u ∈ roCl ⟨t, l, h, false⟩, u.oneCell' = true := by
    intro u hu
    simp only [roCl, List.mem_cons, List.not_mem_nil, or_false] at hu
    rcases hu with rfl | rfl | rfl | rfl <;> rfl
  have HO1 := Lib.hid (HOwn.out.alloc (.cells #[.int .i64 t, .int .i64 l, .int .i64 h, .bool false] 62))
  have HB1 := Lib.hid ((Below.refl base w).alloc (by omega) (.cells #[.int .i64 t, .int .i64 l, .int .i64 h, .bool false] 62))
  have HR1 := Lib.hid ((heap_alloc_old w (.cells #[.int .i64 t, .int .i64 l, .int .i64 h, .bool false] 62) hql).trans HRow.out)
  have hby : (q.l.length + 1) * ic.bytes ≤ 140737488355328 := Nat.le_trans (Nat.mul_le_mul (show q.l.length + 1 ≤ 1001 by omega) hbc) (by decide)
  have hs1 : base ≤ (w.alloc (.cells #[.int .i64 t, .int .i64 l, .int .i64 h, .bool false] 62)).heap.size := by simp; omega
  go_enter Try.func12, Try.ntmps12
  go_wp2_with (at_builtin; refine Hid.out ?_)
  refine Lib.hid ?_
  refine wpList_append_own _ rfl _ _ 56 rfl base 62 ic zc 4 ic.bytes undOs hic hzc hsz rfl hcz (by decide) _ q.l.length _ rfl HO1.out ⟨w.heap.size, 0, none⟩ 1 1 (roCl ⟨t, l, h, false⟩) rfl rfl hnew hone (by unfold maxLen; omega) hby hs1 ?_
  intro v' w2 hown2 hgr2 _
  have HB2 := Lib.hid (HB1.out.grown hgr2 hs1 (fun g e => (HO1.out.lt g e).1))
  have HR2 := Lib.hid ((hgr2.block qb (blk_lt HR1.out) (fun e => own_ne HO1.out HR1.out (by decide) e.symm)).trans HR1.out)
  have HO2 : Hid (w2.ownsRow base 62 4 v' (q.l.length + 1) (roRow (q.l ++ [⟨t, l, h, false⟩]))) := Lib.hid (by
    unfold roRow at hown2 ⊢
    rw [List.flatMap_append]
    simpa using hown2)
  have HY2 := Lib.hid (((Typ.refl w).below ((Below.refl w.heap.size w).alloc (Nat.le_refl _) (.cells #[.int .i64 t, .int .i64 l, .int .i64 h, .bool false] 62))).own HO1.out hgr2)
  clear hown2 hgr2 hnew hone hby hs1 r0 r1 f1 HO1 HB1 HR1 HQ HRow HOwn
  obtain ⟨cap, a2, rfl⟩ : ∃ cap a2, v' = .slice a2 (q.l.length + 1) cap := by
    rcases HO2.out.2 with ⟨_, h0⟩ | ⟨g, cap, cur, h1, _⟩
    · omega
    · exact ⟨_, _, h1⟩
  obtain ⟨r0, r1⟩ := row2 HR2.out
  have f1 : w2.frozen? ⟨qb, 1, none⟩ = false := frozen_of_row _ _ _ _ _ HR2.out
  have HR3 : Hid ((w2.setCell ⟨qb, 1, none⟩ (.slice a2 (q.l.length + 1) cap)).heap[qb]? = some (.cells #[.int .i64 q.n, .slice a2 (q.l.length + 1) cap] 58 (0, 0))) := Lib.hid ((heap_setCell_same _ _ _ _ _ _ HR2.out).trans rfl)
  have HO3 := Lib.hid (HO2.out.kept (grown_set (w := w2) (cb := qb) (j := 1) (v := .slice a2 (q.l.length + 1) cap) 0) (Or.inr (own_ne HO2.out HR2.out (by decide))))
  have HB3 := Lib.hid (HB2.out.setCell (p := ⟨qb, 1, none⟩) hbq (.slice a2 (q.l.length + 1) cap))
  go_wp2_with fail
  go_ret
  refine ⟨by rw [HR.out]; rfl, ?_, HB3.out, HY2.out.set HR2.out⟩
  rw [HR.out]
  refine ⟨hbq, _, HR3.out, ?_⟩
  rw [List.length_append]
  exact HO3.out
theorem lastI_get {l : List RO} {t : Int} (h : 0 ≤ lastI t l) : ∃ x, l[lastN t l - 1]? = some x ∧ x.town = t ∧ getR l t = some x ∧ (lastI t l).toNat = lastN t l - 1 := by
  unfold lastI at h ⊢
  obtain ⟨x, h1, h2, h3⟩ := getR_some (l := l) (t := t) (by omega)
  exact ⟨x, h1, h2, h3, by omega⟩
theorem lastI_none {l : List RO} {t : Int} (h : ¬ 0 ≤ lastI t l) : ovR l t = none := by
  unfold lastI at h
  unfold ovR getR
  rw [if_pos (by omega)]
  rfl
theorem ovR_some {l : List RO} {t : Int} {x : RO} (h : getR l t = some x) : ovR l t = some ⟨x.level, (lastN t l : Int), x.hour, x.done⟩ := by
  unfold ovR
  rw [h]
  rfl
end Go.Proofs.Ythijckdablkofaa
