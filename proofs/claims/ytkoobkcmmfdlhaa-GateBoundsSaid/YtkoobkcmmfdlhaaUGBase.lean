/- What GateOrders and GateBounds share. -/
import Derived.Test.YtkoobkcmmfdlhaaULight
import Derived.Test.YtkoobkcmmfdlhaaUSpan
import Derived.Test.YtkoobkcmmfdlhaaUSmall
namespace Go.Proofs.Ytkoobkcmmfdlhaa
open Go.RowKit
theorem undGt : Try.prog.underlying 28 = some (.struct (Try.prog.fieldsOf 28)) := by kernel_rfl
theorem infoGt : (Try.prog.info? 28).map (·.size) = some 4 := by kernel_rfl
theorem range2 {w : World} {b k : Nat} {x y : Value} (h1 : w.cell? ⟨b, k, none⟩ = some x) (h2 : w.cell? ⟨b, k + 1, none⟩ = some y) : w.rangeAt b k [x, y] := fun j v hv => by
  rcases j with _ | _ | j
  · cases hv; exact h1
  · cases hv; exact h2
  · exact absurd hv (by simp)
theorem exec_load_range {P : Program} {o : Oper} {ev : Operand → Value} {w : World} (ty : TypeId) (x : Operand) (ho : o.op = .load ty x)
    (b k : Nat) (hx : ev x = .pointer (some ⟨b, k, none⟩)) (cs : List Value) (d : TypeDesc) (h : w.rangeAt b k cs)
    (hu : P.underlying ty = some d) (hd : (match d with | .struct _ | .array _ _ => true | _ => false) = true) (hi : (P.info? ty).map (·.size) = some cs.length) :
    (execOp ev o).run P w = .ok (.value (.agg cs.toArray)) w := by
  unfold execOp
  simp only [ho, hx, Instr.loadAt, Instr.sureAddr, Sem.run_bind, Sem.run_pure, Result.andThen_ok, run_loadVar_range w b k ty cs d h hu hd hi]
theorem linkB_of {l : LinkV} (h : LinkOk l) (h1 : I64 l.leak) (h2 : I64 l.crest) : LinkB l := by
  have hk : 0 ≤ l.kind ∧ l.kind ≤ 5 := by unfold LinkOk at h; omega
  exact ⟨h1, h2, hk.1, hk.2⟩
end Go.Proofs.Ytkoobkcmmfdlhaa
