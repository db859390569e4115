/- sort.Search by contract (laid by the shelf of the kit, in plain words). -/
import Derived.Shelf.SlSorted.Search
import Derived.Test.YtkoobkcmmfdlhaaProg
namespace Go.Proofs
open Go.Shelf Go.RowKit Go.Lib Go.Sort
def Try.laysSe_ren : Go.Shelf.Ren := ⟨fun | 16 => 43 | n => n, fun | 3 => 3 | 35 => 74 | 4 => 4 | 38 => 98 | n => n, fun | n => n⟩
theorem Try.laysSe : Go.Proofs.SlLaysO.n16 Try.prog Try.laysSe_ren := {
  mixed := by kernel_rfl
  f16 := Try.func43.trans (congrArg some (by kernel_rfl))
  t3 := Try.underlying3
  a3 := Try.isAgg3
  z3 := Try.sizeOf3
  v3 := Try.zeroValue3
  t4 := Try.underlying4
  a4 := Try.isAgg4
  z4 := Try.sizeOf4
  v4 := Try.zeroValue4
  t35 := Try.underlying74
  a35 := Try.isAgg74
  z35 := Try.sizeOf74
  v35 := Try.zeroValue74
  t38 := Try.underlying98
  a38 := Try.isAgg98
  z38 := Try.sizeOf98
  v38 := Try.zeroValue98 }
theorem Try.sort_Search (g : Nat) (cb : Array Value) (n : Nat) (p : Nat → Bool) (w : World) (eg : ∀ args w, (callFunc g args).run Try.prog w = .ok (.enter g args) w) (hsz : n < 4611686018427387904)
    (hf : ∀ (m : Nat) (os : Array Obj) (i : Nat), i < n → Calls Try.prog g (#[.int .i64 i] ++ cb) (grow (w.drewN m) os) fun e w' => e = .returned (.bool (p i)) ∧ ∃ q os', w' = grow ((grow (w.drewN m) os).drewN q) os')
    (hmono : ∀ a b, a ≤ b → b < n → p a = true → p b = true) :
    Calls Try.prog 43 #[.int .i64 n, .func (.func g) #[] cb] w fun e w' => e = .returned (.int .i64 ((List.range n).countP (fun i => !p i) : Nat)) ∧ ∃ q os, w' = grow (w.drewN q) os := Any.sort_Search Try.laysSe g cb n p w eg hsz hf hmono
end Go.Proofs
