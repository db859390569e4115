/- Facts of the translation on bytes, slices of bytes and strings. -/
import Derived.Test.YtgjklfddoechpaaGreatDoorBase
import Derived.Deep.DeepCutAuto
import Derived.BigQuiet
import Derived.Deep.QuietTactic
namespace Go.Proofs.YtgjklfddoechpaaGreatDoor
open Go.RowKit
theorem undBs : Tryz.prog.underlying 115 = some (.slice 5) := by kernel_rfl
theorem undB : Tryz.prog.underlying 5 = some (.int .u8) := by kernel_rfl
theorem undS : Tryz.prog.underlying 9 = some .string := by kernel_rfl
theorem infoB : (Tryz.prog.info? 5).map (fun i => (i.zero, i.size, i.bytes)) = some (some (.int .u8 0), 1, 1) := by kernel_rfl
theorem _root_.Go.World.ownsRow.block_ge {w : World} {base : Nat} {e : TypeId} {size : Nat} {v : Value} {n : Nat} {xs : List Value} (h : w.ownsRow base e size v n xs) {k : Nat} (hk : v.ownBlock = some k) : base ≤ k := by
  rcases h.2 with ⟨rfl, _⟩ | ⟨g, cap, cur, rfl, hg, _⟩
  · simp [Value.ownBlock] at hk
  · simp [Value.ownBlock] at hk
    omega
end Go.Proofs.YtgjklfddoechpaaGreatDoor
