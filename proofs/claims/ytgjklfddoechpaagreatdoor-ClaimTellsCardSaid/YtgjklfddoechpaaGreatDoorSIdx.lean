/- An index into a string. -/
import Derived.Test.YtgjklfddoechpaaGreatDoorBytes
namespace Go.Proofs.YtgjklfddoechpaaGreatDoor
open Go.RowKit
theorem index_str (s : ByteArray) (i : Int) (n : Nat) (hi : i = (n : Int)) (hn : n < s.size) (w : World) : (Instr.index 9 (.string s) (.int .i64 i)).run Tryz.prog w = .ok (.int .u8 (s[n].toNat : Int)) w := by
  subst hi
  have h0 : (0 : Int) ≤ (n : Int) := Int.natCast_nonneg _
  have h : s[n]? = some s[n] := by simp [hn]
  simp [Instr.index, asIntOf, run_underlying undS, h]
end Go.Proofs.YtgjklfddoechpaaGreatDoor
