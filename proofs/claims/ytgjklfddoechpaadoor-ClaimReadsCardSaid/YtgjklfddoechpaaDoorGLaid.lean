/- A world for the witness: the settled one, with the tables of digest and of unicode/utf8 as their initialisers lay them. -/
import Derived.Test.YtgjklfddoechpaaDoorComp
import Derived.Test.YtgjklfddoechpaaDoorRows
import GoSem.PinnedTables
namespace Go.Proofs.YtgjklfddoechpaaDoor
def acceptZ : List Int := [128, 191, 160, 191, 128, 159, 144, 191, 128, 143, 0, 0, 0, 0, 0, 0, 0, 0, 0, 0, 0, 0, 0, 0, 0, 0, 0, 0, 0, 0, 0, 0]
noncomputable def laidWorld (os : Os) : World :=
  { World.holding Tryd.prog os ⟨#[], #[], []⟩ with heap := ((((World.holding Tryd.prog os ⟨#[], #[], []⟩).heap.modify 6 (fun | .cells _ t frozen => .cells (acceptZ.map (Value.int .u8)).toArray t frozen | o => o)).modify 5 (fun | .cells _ t frozen => .cells (Go.Pinned.utf8FirstZ.map fun z : Nat => Value.int .u8 (z : Int)).toArray t frozen | o => o)).modify 0 (fun | .cells _ t frozen => .cells (u32v startL) t frozen | o => o)).modify 1 (fun | .cells _ t frozen => .cells (ordL.flatten.map (Value.int .u8)).toArray t frozen | o => o) }
end Go.Proofs.YtgjklfddoechpaaDoor
