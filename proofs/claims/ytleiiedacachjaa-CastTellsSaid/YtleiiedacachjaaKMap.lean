/- Forecasts: the map of the last news by forecast, in memory. -/
import Derived.Test.YtleiiedacachjaaKBytes
import Derived.Test.YtleiiedacachjaaDLaw
import Derived.Maps.OwnSet
import Derived.Maps.OwnOps
namespace Go.Proofs.Ytleiiedacachjaa
open Go.RowKit Go.Maps
theorem i64_mk {n : Int} (h : I64 n) : (Lit.int .i64 n).wf = true := by
  unfold I64 at h
  simp [Lit.wf, IntKind.min, IntKind.max, IntKind.signed, IntKind.bits]
  omega
theorem ovD_inj {a b : OV} (h : ovD (H := Unit) a = ovD b) : a = b := by
  unfold ovD at h
  simp only [DataW.agg.injEq, List.cons.injEq, DataW.lit.injEq, Lit.int.injEq, Lit.bool.injEq, true_and, and_true] at h
  obtain ⟨h1, h2, h3, h4⟩ := h
  cases a; cases b
  simp only [OV.mk.injEq]
  exact ⟨h1, h2, h3, h4⟩
abbrev RdR := Value → Option (DataW Unit × List MemPlace)
abbrev MapAt (R : RdR) (w : World) (mb n : Nat) (m : OM) : Prop := w.ownsMap Try.prog 3 R mb n (omD m)
def zeroO : OV := ⟨-1, 0, 0, false⟩
def zeroC : Value := .agg #[.string ⟨#[]⟩, .int .i64 0, .int .i64 0, .int .i64 0, .int .i64 0, .slice none 0 0]
def codedV (x : NewsV) (u : Value) : Value := .agg #[.string ⟨(newsB x).toArray⟩, .int .i64 x.kind, .int .i64 x.known, .int .i64 x.cast.id, .int .i64 x.cast.src, u]
def ixO (j : Nat) : OV := ⟨(j : Int), 0, 0, false⟩
/-- v is the entry of the news number j -/
def IsCod (xs : List NewsV) (vs : List Value) (v : Value) (j : Nat) : Prop := ∃ x u, xs[j]? = some x ∧ vs[j]? = some u ∧ v = codedV x u
open Classical in
noncomputable def codR (xs : List NewsV) (vs : List Value) : RdR := fun v =>
  if v = zeroC then some (ovD zeroO, []) else if h : ∃ j, IsCod xs vs v j then some (ovD (ixO (Classical.choose h)), []) else none
theorem codR_zero (xs : List NewsV) (vs : List Value) : codR xs vs zeroC = some (ovD zeroO, []) := by unfold codR; rw [if_pos rfl]
theorem coded_ne {x : NewsV} {u : Value} : codedV x u ≠ zeroC := fun h => by
  unfold codedV zeroC at h
  simp only [Value.agg.injEq, Array.mk.injEq, List.cons.injEq, Value.string.injEq, ByteArray.mk.injEq] at h
  have h1 : newsB x = [] := by simpa using h.1
  have h2 : (newsB x).length = 0 := by rw [h1]; rfl
  unfold newsB at h2
  rw [joinL_pre, List.length_append, List.length_append] at h2
  simp at h2
theorem codR_mk {xs : List NewsV} {vs : List Value} {x : NewsV} {u : Value} {j : Nat} (h1 : xs[j]? = some x) (h2 : vs[j]? = some u) : ∃ i, codR xs vs (codedV x u) = some (ovD (ixO i), []) ∧ IsCod xs vs (codedV x u) i := by
  have h : ∃ j, IsCod xs vs (codedV x u) j := ⟨j, x, u, h1, h2, rfl⟩
  refine ⟨Classical.choose h, ?_, Classical.choose_spec h⟩
  unfold codR
  rw [if_neg coded_ne, dif_pos h]
theorem codR_inv {xs : List NewsV} {vs : List Value} {v : Value} {j : Nat} {ps : List MemPlace} (h : codR xs vs v = some (ovD (ixO j), ps)) : IsCod xs vs v j := by
  unfold codR at h
  split at h
  · simp only [Option.some.injEq, Prod.mk.injEq] at h
    have := ovD_inj h.1
    unfold zeroO ixO at this
    simp only [OV.mk.injEq] at this
    omega
  · split at h
    · next hh =>
      simp only [Option.some.injEq, Prod.mk.injEq] at h
      have := ovD_inj h.1
      unfold ixO at this
      simp only [OV.mk.injEq, Int.natCast_inj] at this
      rw [← this.1]
      exact Classical.choose_spec hh
    · cases h
theorem codR_zero_inv {xs : List NewsV} {vs : List Value} {v : Value} {ps : List MemPlace} (h : codR xs vs v = some (ovD zeroO, ps)) : v = zeroC := by
  unfold codR at h
  split at h
  · assumption
  · split at h
    · simp only [Option.some.injEq, Prod.mk.injEq] at h
      have := ovD_inj h.1
      unfold zeroO ixO at this
      simp only [OV.mk.injEq] at this
      omega
    · cases h
theorem lawI : Keyed Try.prog 3 := int_keyed Try.underlying3
theorem undMo : Try.prog.underlying 64 = some (.map 3 66) := by kernel_rfl
theorem zeroCod (w : World) : (zeroValue 66).run Try.prog w = .ok zeroC w := by kernel_rfl
def ordAt (m : OM) (t : Int) : OV := (getM m t).getD zeroO
theorem atKey_ord (m : OM) (t : Int) : (omD (H := Unit) m).atKey (.int .i64 t) (ovD zeroO) = ovD (ordAt m t) := by
  rw [omD_atKey]
  unfold ordAt
  cases getM m t <;> rfl
theorem run_look {R : RdR} {w : World} {mb n : Nat} {m : OM} (hz : R zeroC = some (ovD zeroO, [])) (h : MapAt R w mb n m) {t : Int} (ht : I64 t) :
    ∃ v ps, (Instr.lookup 64 (.map (some mb)) (.int .i64 t) false).run Try.prog w = .ok v w ∧ R v = some (ovD (ordAt m t), ps) := by
  obtain ⟨v, ps, hrun, hR⟩ := h.lookup lawI undMo (zeroCod w) hz (keyOf_int_mk Try.underlying3 (i64_mk ht))
  rw [atKey_ord] at hR
  exact ⟨v, ps, hrun, hR⟩
theorem run_look_ok {R : RdR} {w : World} {mb n : Nat} {m : OM} (hz : R zeroC = some (ovD zeroO, [])) (h : MapAt R w mb n m) {t : Int} (ht : I64 t) :
    ∃ v ps, (Instr.lookup 64 (.map (some mb)) (.int .i64 t) true).run Try.prog w = .ok (.tuple #[v, .bool (getM m t).isSome]) w ∧ R v = some (ovD (ordAt m t), ps) := by
  have hkey := keyOf_int_mk Try.underlying3 (i64_mk ht)
  obtain ⟨es, clock, hb, F, _, hD⟩ := h
  rcases Maps.fit_look true lawI undMo (zeroCod w) hb F hkey with ⟨hrun, hno, hat⟩ | ⟨e0, y, hm, he, hrun, hRv, hat, _⟩
  · rw [← hD] at hat
    have h1 : (omD (H := Unit) m).atKey (.int .i64 t) (.lit (.bool true)) = .lit (.bool true) := hat _
    rw [omD_atKey] at h1
    cases hg : getM m t with
    | none =>
      refine ⟨zeroC, [], hrun, ?_⟩
      unfold ordAt
      rw [hg]
      exact hz
    | some o =>
      rw [hg] at h1
      cases h1
  · rw [← hD] at hat
    have h1 := hat (.lit (.bool true))
    rw [omD_atKey] at h1
    cases hg : getM m t with
    | none =>
      have h2 := hat (.lit (.bool false))
      rw [omD_atKey, hg] at h2
      rw [hg] at h1
      rw [← h1] at h2
      cases h2
    | some o =>
      rw [hg] at h1
      obtain ⟨y1, y2⟩ := y
      simp only at h1
      subst h1
      refine ⟨e0.val, y2, hrun, ?_⟩
      unfold ordAt
      rw [hg]
      exact hRv
/-- as many entries as orders -/
theorem MapAt.tight {R : RdR} {w : World} {mb n : Nat} {m : OM} (h : MapAt R w mb n m) : MapAt R w mb m.length m := by
  obtain ⟨es, clock, hb, F, _, hD⟩ := h
  refine ⟨es, clock, hb, F, ?_, hD⟩
  have h1 := congrArg Maps.size hD
  rw [omD_size] at h1
  rw [h1]
  simp only [Maps.size]
  rw [length_sorted]
  simp
theorem MapAt.below {R : RdR} {w w' : World} {mb n : Nat} {m : OM} (h : MapAt R w mb n m) (hb : Below w.heap.size w w') : MapAt R w' mb n m := by
  obtain ⟨es, clock, hm, h2⟩ := h
  have hlt := (Array.getElem?_eq_some_iff.1 hm).1
  exact ⟨es, clock, (hb.block mb hlt).trans hm, h2⟩
end Go.Proofs.Ytleiiedacachjaa
