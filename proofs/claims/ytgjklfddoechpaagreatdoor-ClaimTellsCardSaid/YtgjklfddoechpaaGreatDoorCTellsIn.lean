/- A list of numbers as an argument that came in, opened. -/
import Derived.Test.YtgjklfddoechpaaGreatDoorCOpen
import Derived.Test.YtgjklfddoechpaaGreatDoorCTells
namespace Go.Proofs.YtgjklfddoechpaaGreatDoor
open Go.RowKit
theorem undNs : Tryz.prog.underlying 30 = some (.slice 3) := by kernel_rfl
set_option maxRecDepth 100000 in
theorem arg_nums {H : Type} {enc : TypeId × Value → H} {W : World} {base : Nat} {v : Value} {d : DataW H} {ps : List MemPlace} (hval : Value.okWide Tryz.prog W .any base 30 v)
    (h : DataW.Trod enc Tryz.prog W 0 (fun _ => true) true 30 v d ps) : ∃ l : List Int, LArg RInt 1 v l W := by
  obtain ⟨a0, len0, cap0, rfl⟩ := Go.WideShapes.okWide_slice undNs hval
  exact LArg.of_rd undNs (by kernel_rfl) (by decide) (rint_of_rd (by kernel_rfl)) (Rd.of_trod h)
end Go.Proofs.YtgjklfddoechpaaGreatDoor
