/- bournetop.small, by the evaluator. -/
import Derived.Test.YtokbandookjdjaaGreatEvD9
import Derived.Test.YtokbandookjdjaaGreatRows
namespace Go.Proofs.YtokbandookjdjaaGreat
open Go Go.Proofs Go.Proofs.YtokbandookjdjaaGreat.Ev Go.RowKit
def keepF (f : Nat) : Bool := [21, 22, 23, 54].contains f
def extF (f : Nat) : Option Ext := if f = 120 then some .valueOf else if f = 121 then some (.swapper 129) else if f = 122 then some .valueLen else if f = 129 then some .swap else none
theorem ext_call {P : Program} {f : FuncId} {fn : Func} {e : Array Value → Sem Value} {args : Array Value} {w w' : World} {v : Value} (hr : (e args).run P w = .ok v w') (hf : P.funcs[f]? = some fn) (hname : (fn.name == "runtime.NumGoroutine") = false)
    (hb : fn.body.isNone = true) (hn : Extern.findNext fn = none) (he : Extern.find fn = some e) : (callFunc f args).run P w = .ok (.value v) w' := by
  rw [run_callFunc_extern hf hname hb hn he args w, hr]
  rfl
theorem extF_ok : ExtOk Tryz.prog extF := fun f k h => by
  unfold extF at h
  split at h
  · next e =>
    subst e
    cases h
    exact fun args w => run_callFunc_extern Tryz.func120 (by kernel_rfl) (by kernel_rfl) (by kernel_rfl) (e := fun args => Extern.ReflectliteValue.unpack (args.getD 0 (.tuple #[]))) (by kernel_rfl) args w
  · split at h
    · next e =>
      subst e
      cases h
      exact fun t e i ie hi hd hie ke hke p n c hK w => by
        have hr := Lib.run_swapper_slice (P := Tryz.prog) t e i ie hi hd hie ke hke p n c 129 (by rw [hK]; kernel_rfl) w
        rw [hK, if_neg (by decide)] at hr
        exact ext_call hr Tryz.func121 (by kernel_rfl) (by kernel_rfl) (by kernel_rfl) (by kernel_rfl)
    · split at h
      · next e =>
        subst e
        cases h
        exact fun t e i hi hd hpk a p n c w hcell => ext_call (Lib.run_valueLen_slice (P := Tryz.prog) t e i hi hd hpk a p n c w hcell) Tryz.func122 (by kernel_rfl) (by kernel_rfl) (by kernel_rfl) (by kernel_rfl)
      · split at h
        · next e =>
          subst e
          cases h
          exact fun args w => run_callFunc_extern Tryz.func129 (by kernel_rfl) (by kernel_rfl) (by kernel_rfl) (e := Extern.ReflectliteSwapper.swap true) (by kernel_rfl) args w
        · cases h
def okName (fn : Func) : Bool := !(fn.body.isSome && (fn.name == "runtime.NumGoroutine"))
theorem noName : NoName Tryz.prog := fun f fn hf hb => by
  have h : Tryz.prog.funcs.toList.all okName = true := by kernel_rfl
  have h1 := List.all_eq_true.1 h fn (List.mem_of_getElem? (by rw [Array.getElem?_toList]; exact hf))
  unfold okName at h1
  rw [hb] at h1
  simpa using h1
/-- the evaluator's answer -/
def isTrue (r : Rs (AV × AS)) : Bool := match r with | .ok (.lit (.bool true), _) => true | _ => false
theorem small_ev : isTrue (evCall Tryz.prog extF keepF 200 30 4 [] ⟨0, []⟩) = true := by kernel_rfl
theorem small_true (w : World) : Calls Tryz.prog 4 #[] w fun e w' => e = .returned (.bool true) ∧ Below w.heap.size w w' := by
  have h := small_ev
  unfold isTrue at h
  split at h
  · next s' he =>
    have hm : Tryz.prog.follows .mixedOrders = true := by kernel_rfl
    obtain ⟨-, h1⟩ := evCall_ok hm noName extF_ok 200 30 4 [] ⟨0, []⟩ _ _ he (fun _ => none) w rfl ⟨(fun i o hi => by rw [heap_get_nil] at hi; cases hi), (fun i j o p hi => by rw [heap_get_nil] at hi; cases hi)⟩ (fun _ _ => rfl)
    refine h1.mono fun e w' hw => ?_
    obtain ⟨E', rfl, -, h2⟩ := hw
    exact ⟨rfl, h2.below⟩
  · cases h
end Go.Proofs.YtokbandookjdjaaGreat
