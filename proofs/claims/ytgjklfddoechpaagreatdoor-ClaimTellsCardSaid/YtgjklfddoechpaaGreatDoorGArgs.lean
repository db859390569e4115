/- Arguments as the statements hand them over, turned into what the walks of package gram use. -/
import Derived.Test.YtgjklfddoechpaaGreatDoorWText
import Derived.Test.YtgjklfddoechpaaGreatDoorRows
import Derived.JoinedCond
import Derived.ProofKit
import Derived.OpenShut
import Derived.ChangeSlices
import Derived.SliceStrings
import Derived.Carry
import Derived.Shelf.Vars
namespace Go.Proofs.YtgjklfddoechpaaGreatDoor
open Go.ChangeShapes Go.WideShapes Go.ChangeAt Go.RowKit Go.WideMaps Go.WideElems
open Go.ChangeMaps (open_string shut_string)
theorem own : ownKnob Tryz.prog.godebug = none := by kernel_rfl
theorem laidOut : laidOutB Tryz.prog = true := by kernel_rfl
theorem mlen_of {W : World} (h : W.ShapedOpen Tryz.prog) : MLen W :=
  Go.Proofs.cell_of_shapedOpen_int (zero := #[.int .i64 0]) (t := 3) h (of_decide_eq_true (by kernel_rfl)) (by kernel_rfl) rfl (by kernel_rfl) (by kernel_rfl) Tryz.underlying3
theorem cell_lt {w : World} {a : Addr} {v : Value} (h : w.cell? a = some v) : a.block < w.heap.size := by
  rcases Nat.lt_or_ge a.block w.heap.size with h' | h'
  · exact h'
  · simp [World.cell?, Array.getElem?_eq_none h'] at h
theorem trod_below {H : Type} {enc : TypeId × Value → H} {W : World} {t : TypeId} {v : Value} {d : DataW H} {ps : List MemPlace} (h : DataW.Trod enc Tryz.prog W 0 (fun _ => true) true t v d ps) : ∀ x ∈ ps, x.block < W.heap.size := fun x hx => by
  obtain ⟨n, h⟩ := h
  exact DataW.trod_lt n _ _ _ h x hx
end Go.Proofs.YtgjklfddoechpaaGreatDoor
