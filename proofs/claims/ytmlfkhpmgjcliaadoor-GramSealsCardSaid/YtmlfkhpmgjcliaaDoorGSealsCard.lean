/- bournelaw24.GramSeals returns true for every input that the statement speaks of, and leaves its arguments as they were. -/
import Derived.Test.YtmlfkhpmgjcliaaDoorGSeals
import Derived.Test.YtmlfkhpmgjcliaaDoorGArgs
import Derived.Test.YtmlfkhpmgjcliaaDoorGOpen
import Derived.Test.YtmlfkhpmgjcliaaDoorGGlob
import Derived.Test.YtmlfkhpmgjcliaaDoorGLaid
import Derived.Test.YtmlfkhpmgjcliaaDoorCards
import Derived.Test.YtmlfkhpmgjcliaaDoorTie
import Derived.Deep.DeepHandedRow
namespace Go.Proofs.YtmlfkhpmgjcliaaDoor.gramSeals
open Go.ChangeShapes Go.WideShapes Go.ChangeAt Go.RowKit Go.WideMaps Go.WideElems
open Go.ChangeMaps (open_string shut_string)
theorem laid_met (os : Os) : laidMet Tryd.prog Rows.gramSealsRow.laid ((laidWorld os).forCall (fun _ _ => 0) ⟨#[], #[.string ⟨#[]⟩, .agg #[.int .i64 0, .int .i64 0, .int .i64 0, .int .i64 0, .string ⟨#[]⟩]], []⟩).memory :=
  laidMet_of_run' 8 (by kernel_rfl) (by kernel_rfl)
theorem reads (os : Os) {H : Type} (enc : TypeId × Value → H) : ∃ places, DataW.whole enc Tryd.prog ((laidWorld os).forCall (fun _ _ => 0) ⟨#[], #[.string ⟨#[]⟩, .agg #[.int .i64 0, .int .i64 0, .int .i64 0, .int .i64 0, .string ⟨#[]⟩]], []⟩).memory Tryd.f6.params.toList Rows.gramSealsSpec.vars false (#[.string ⟨#[]⟩, .agg #[.int .i64 0, .int .i64 0, .int .i64 0, .int .i64 0, .string ⟨#[]⟩]] : Array Value).toList 8 = some ([.lit (.string []), .agg [.lit (.int .i64 0), .lit (.int .i64 0), .lit (.int .i64 0), .lit (.int .i64 0), .lit (.string [])]], [], places) :=
  ⟨[], by kernel_rfl⟩
theorem plain (f : FuncId) (fn : Func) (hf : Tryd.pinned.checked.prog.funcNamed "bourne/bournelaw24.GramSeals" = some f) (hfn : Tryd.pinned.checked.prog.funcs[f]? = some fn) :
    false = Tryd.pinned.checked.prog.looks [] ∧ ∀ (j : Nat) t, fn.params[j]? = some t → Tryd.pinned.checked.prog.wantsStandIn t = false := by
  obtain rfl : f = 6 := Option.some.inj ((show Tryd.prog.funcNamed "bourne/bournelaw24.GramSeals" = some 6 by kernel_rfl).symm.trans hf) |>.symm
  obtain rfl : fn = Tryd.f6 := (Option.some.inj (Tryd.func6.symm.trans hfn)).symm
  refine ⟨by kernel_rfl, fun j t ht => ?_⟩
  rw [Tryd.params6] at ht
  have hm : t = 9 ∨ t = 23 := by simpa using Array.mem_of_getElem? ht
  have h1 : ∀ t, (t = 9 ∨ t = 23) → Tryd.prog.wantsStandIn t = false := by
    intro t ht
    rcases ht with rfl | rfl
    · exact (show Tryd.prog.wantsStandIn 9 = false by kernel_rfl)
    · exact (show Tryd.prog.wantsStandIn 23 = false by kernel_rfl)
  exact h1 t hm
end Go.Proofs.YtmlfkhpmgjcliaaDoor.gramSeals
