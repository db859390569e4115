/- A world for the witness: the settled one, with the tables of digest and of unicode/utf8 as their initialisers lay them. -/
import GoSem.PinnedTables
import Derived.Test.YtjbjpkhibcnenaaGreatDoorComp
import Derived.Test.YtjbjpkhibcnenaaGreatDoorRows
namespace Go.Proofs.YtjbjpkhibcnenaaGreatDoor
def acceptZ : List Int := [128, 191, 160, 191, 128, 159, 144, 191, 128, 143, 0, 0, 0, 0, 0, 0, 0, 0, 0, 0, 0, 0, 0, 0, 0, 0, 0, 0, 0, 0, 0, 0]
noncomputable def laidWorld (os : Os) : World :=
  { World.holding Tryz.prog os ⟨#[], #[], []⟩ with heap := ((((World.holding Tryz.prog os ⟨#[], #[], []⟩).heap.modify 6 (fun | .cells _ t frozen => .cells (acceptZ.map (Value.int .u8)).toArray t frozen | o => o)).modify 5 (fun | .cells _ t frozen => .cells (Go.Pinned.utf8FirstZ.map fun z : Nat => Value.int .u8 (z : Int)).toArray t frozen | o => o)).modify 0 (fun | .cells _ t frozen => .cells (u32v startL) t frozen | o => o)).modify 3 (fun | .cells _ t frozen => .cells (ordL.flatten.map (Value.int .u8)).toArray t frozen | o => o) }
end Go.Proofs.YtjbjpkhibcnenaaGreatDoor

