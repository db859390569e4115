/- bournelaw46.AuditGrows for arguments that came in. -/
import Derived.Test.YtjbjpkhibcnenaaGreatDoorAGrows
import Derived.Test.YtjbjpkhibcnenaaGreatDoorAOpen
namespace Go.Proofs.YtjbjpkhibcnenaaGreatDoor
open Go.RowKit
theorem grows_in (x : BsX) (ar : Option Addr) (nr cr : Nat) (err : Int) (room : List Int) (vq : Value) (pubs : List PublicV) (v1 : Value) (first : List CV) (v2 : Value) (more : List CV) (W : World) (hR : LArg RInt 1 (.slice ar nr cr) room W) (hQ : LArg RPublic 4 vq pubs W) (h1 : LArg RC 8 v1 first W) (h2 : LArg RC 8 v2 more W) (hg : Glob W) (hml : MLen W) :
    Calls Tryz.prog 4 #[.agg (cellsBs x (.slice ar nr cr) err).toArray, vq, v1, v2] W (RetB true W) := by
  obtain ⟨_, _, e, -, -⟩ := hR.slice
  simp only [Value.slice.injEq] at e
  obtain ⟨-, rfl, -⟩ := e
  obtain ⟨aq, nq, rfl, -, -⟩ := hQ.slice
  obtain ⟨a1, n1, rfl, -, -⟩ := h1.slice
  obtain ⟨a2, n2, rfl, -, -⟩ := h2.slice
  exact grows_core x ar aq a1 a2 cr nq n1 n2 err room pubs first more W hR hQ h1 h2 hg hml
end Go.Proofs.YtjbjpkhibcnenaaGreatDoor

