/- Wardens: the map of orders and the post in memory. -/
import Derived.Test.YthijckdablkofaaBase
import Derived.Test.YthijckdablkofaaDLaws
import Derived.Maps.OwnSet
import Derived.Maps.OwnOps
namespace Go.Proofs.Ythijckdablkofaa
open Go.RowKit Go.Maps
def I64 (n : Int) : Prop := -9223372036854775808 ≤ n ∧ n ≤ 9223372036854775807
theorem i64_mk {n : Int} (h : I64 n) : (Lit.int .i64 n).wf = true := by
  unfold I64 at h
  simp [Lit.wf, IntKind.min, IntKind.max, IntKind.signed, IntKind.bits]
  omega
def ordV (o : OV) : Value := .agg #[.int .i64 o.level, .int .i64 o.number, .int .i64 o.hour, .bool o.done]
def ordR (v : Value) : Option (DataW Unit × List MemPlace) :=
  match v with
  | .agg cs => match cs.toList with
    | [.int .i64 a, .int .i64 b, .int .i64 c, .bool d] => some (ovD ⟨a, b, c, d⟩, [])
    | _ => none
  | _ => none
theorem ordR_mk (o : OV) : ordR (ordV o) = some (ovD o, []) := rfl
theorem ovD_inj {a b : OV} (h : ovD (H := Unit) a = ovD b) : a = b := by
  unfold ovD at h
  simp only [DataW.agg.injEq, List.cons.injEq, DataW.lit.injEq, Lit.int.injEq, Lit.bool.injEq, true_and, and_true] at h
  obtain ⟨h1, h2, h3, h4⟩ := h
  cases a; cases b
  simp only [OV.mk.injEq]
  exact ⟨h1, h2, h3, h4⟩
theorem ordR_inv {v : Value} {o : OV} {ps : List MemPlace} (h : ordR v = some (ovD o, ps)) : v = ordV o := by
  unfold ordR at h
  split at h
  · rename_i cs
    split at h
    · rename_i a b c d he
      simp only [Option.some.injEq, Prod.mk.injEq] at h
      have := ovD_inj h.1
      subst this
      unfold ordV
      congr 1
      apply Array.ext'
      rw [he]
    · cases h
  · cases h
abbrev MapAt (w : World) (mb n : Nat) (m : OM) : Prop := w.ownsMap Try.prog 3 ordR mb n (omD m)
def zeroO : OV := ⟨0, 0, 0, false⟩
theorem lawI : Keyed Try.prog 3 := int_keyed Try.underlying3
theorem undMo : Try.prog.underlying 53 = some (.map 3 60) := by kernel_rfl
theorem zeroOrd (w : World) : (zeroValue 60).run Try.prog w = .ok (ordV zeroO) w := by kernel_rfl
def ordAt (m : OM) (t : Int) : OV := (getM m t).getD zeroO
theorem atKey_ord (m : OM) (t : Int) : (omD (H := Unit) m).atKey (.int .i64 t) (ovD zeroO) = ovD (ordAt m t) := by
  rw [omD_atKey]
  unfold ordAt
  cases getM m t <;> rfl
theorem run_look {w : World} {mb n : Nat} {m : OM} (h : MapAt w mb n m) {t : Int} (ht : I64 t) : (Instr.lookup 53 (.map (some mb)) (.int .i64 t) false).run Try.prog w = .ok (ordV (ordAt m t)) w := by
  obtain ⟨v, ps, hrun, hR⟩ := h.lookup lawI undMo (zeroOrd w) (ordR_mk zeroO) (keyOf_int_mk Try.underlying3 (i64_mk ht))
  rw [atKey_ord] at hR
  rw [hrun, ordR_inv hR]
theorem run_look_ok {w : World} {mb n : Nat} {m : OM} (h : MapAt w mb n m) {t : Int} (ht : I64 t) : (Instr.lookup 53 (.map (some mb)) (.int .i64 t) true).run Try.prog w = .ok (.tuple #[ordV (ordAt m t), .bool (getM m t).isSome]) w := by
  have hkey := keyOf_int_mk Try.underlying3 (i64_mk ht)
  obtain ⟨es, clock, hb, F, _, hD⟩ := h
  rcases Maps.fit_look true lawI undMo (zeroOrd w) hb F hkey with ⟨hrun, hno, hat⟩ | ⟨e0, y, hm, he, hrun, hRv, hat, _⟩
  · rw [← hD] at hat
    have h1 : (omD (H := Unit) m).atKey (.int .i64 t) (.lit (.bool true)) = .lit (.bool true) := hat _
    rw [omD_atKey] at h1
    cases hg : getM m t with
    | none =>
      rw [hrun]
      unfold ordAt
      rw [hg]
      rfl
    | some o =>
      rw [hg] at h1
      cases h1
  · rw [← hD] at hat
    have h1 := hat (.lit (.bool true))
    rw [omD_atKey] at h1
    cases hg : getM m t with
    | none =>
      have h2 := hat (.lit (.bool false))
      rw [omD_atKey, hg] at h2
      rw [hg] at h1
      rw [← h1] at h2
      cases h2
    | some o =>
      rw [hg] at h1
      obtain ⟨y1, y2⟩ := y
      simp only at h1
      subst h1
      rw [hrun, ordR_inv hRv]
      unfold ordAt
      rw [hg]
      rfl
/-- as many entries as orders -/
theorem MapAt.tight {w : World} {mb n : Nat} {m : OM} (h : MapAt w mb n m) : MapAt w mb m.length m := by
  obtain ⟨es, clock, hb, F, _, hD⟩ := h
  refine ⟨es, clock, hb, F, ?_, hD⟩
  have h1 := congrArg Maps.size hD
  rw [omD_size] at h1
  rw [h1]
  simp only [Maps.size]
  rw [length_sorted]
  simp
/-- the post with state s, in blocks pb and mb -/
structure PAt (w : World) (pb mb : Nat) (s : WS) : Prop where
  row : w.heap[pb]? = some (.cells #[.int .i64 s.n, .int .i64 s.r, .map (some mb)] 55 (0, 0))
  map : MapAt w mb s.m.length s.m
/-- nothing but blocks pb and mb and what is new has changed -/
structure Mv (pb mb : Nat) (w w' : World) : Prop where
  os : w'.os = w.os
  tape : w'.tape = w.tape
  output : w'.output = w.output
  size : w.heap.size ≤ w'.heap.size
  block : ∀ k, k < w.heap.size → k ≠ pb → k ≠ mb → w'.heap[k]? = w.heap[k]?
theorem Mv.refl (pb mb : Nat) (w : World) : Mv pb mb w w := ⟨rfl, rfl, rfl, Nat.le_refl _, fun _ _ _ _ => rfl⟩
theorem Mv.trans {pb mb : Nat} {a b c : World} (h : Mv pb mb a b) (h2 : Mv pb mb b c) : Mv pb mb a c :=
  ⟨h2.os.trans h.os, h2.tape.trans h.tape, h2.output.trans h.output, Nat.le_trans h.size h2.size, fun k hk h3 h4 => (h2.block k (Nat.lt_of_lt_of_le hk h.size) h3 h4).trans (h.block k hk h3 h4)⟩
theorem Mv.of_below {pb mb : Nat} {w w' : World} (h : Below w.heap.size w w') : Mv pb mb w w' := ⟨h.os, h.tape, h.output, h.size, fun k hk _ _ => h.block k hk⟩
theorem Mv.below {pb mb B : Nat} {a w w' : World} (h : Mv pb mb w w') (hb : Below B a w) (h1 : B ≤ pb) (h2 : B ≤ mb) (h3 : B ≤ w.heap.size) : Below B a w' :=
  hb.trans ⟨h.os, h.tape, h.output, h.size, fun k hk => h.block k (Nat.lt_of_lt_of_le hk h3) (by omega) (by omega)⟩
theorem PAt.below {w w' : World} {pb mb : Nat} {s : WS} (h : PAt w pb mb s) (hb : Below w.heap.size w w') : PAt w' pb mb s :=
  ⟨blk_below h.row hb (blk_lt h.row), by
    obtain ⟨es, clock, hm, h2⟩ := h.map
    have hlt := (Array.getElem?_eq_some_iff.1 hm).1
    exact ⟨es, clock, (hb.block mb hlt).trans hm, h2⟩⟩
/-- another post -/
theorem PAt.mv {w w' : World} {pb mb pc mc : Nat} {s : WS} (h : PAt w pb mb s) (hv : Mv pc mc w w') (h1 : pb ≠ pc) (h2 : pb ≠ mc) (h3 : mb ≠ pc) (h4 : mb ≠ mc) : PAt w' pb mb s :=
  ⟨(hv.block pb (blk_lt h.row) h1 h2).trans h.row, by
    obtain ⟨es, clock, hm, h5⟩ := h.map
    have hlt := (Array.getElem?_eq_some_iff.1 hm).1
    exact ⟨es, clock, (hv.block mb hlt h3 h4).trans hm, h5⟩⟩
theorem PAt.lt {w : World} {pb mb : Nat} {s : WS} (h : PAt w pb mb s) : pb < w.heap.size ∧ mb < w.heap.size := ⟨blk_lt h.row, h.map.lt⟩
theorem PAt.ne {w : World} {pb mb : Nat} {s : WS} (h : PAt w pb mb s) : pb ≠ mb := fun e => by
  obtain ⟨es, clock, hm, _⟩ := h.map
  have := h.row
  rw [e, hm] at this
  cases this
end Go.Proofs.Ythijckdablkofaa
