/- Names of a basin: a key. -/
import Derived.Test.YtkoobkcmmfdlhaaBCtx
import Derived.Maps.OwnSet
import Derived.Maps.OwnOps
import Derived.DeepKeys4
namespace Go.Proofs.Ytkoobkcmmfdlhaa
open Go.RowKit Go.Maps
theorem undMk : Try.prog.underlying 104 = some (.struct (Try.prog.fieldsOf 104)) := by kernel_rfl
theorem infoMk : (Try.prog.info? 104).map (·.size) = some 2 := by kernel_rfl
theorem rowMk : 104 < Try.prog.types.size := of_decide_eq_true (by kernel_rfl)
theorem laidB : laidOutB Try.prog = true := by kernel_rfl
theorem wideMk : (match Try.prog.underlying 104 with | some (.array _ _) | some (.struct _) => true | _ => false) = true := by rw [undMk]
set_option maxRecDepth 100000 in
theorem lawMk : Keyed Try.prog 104 := Keyed.of_law (deep_law_laid laidB (m := 2) (by omega) rowMk (by kernel_rfl) wideMk)
theorem undMm : Try.prog.underlying 78 = some (.map 104 4) := by kernel_rfl
theorem zeroBo (w : World) : (zeroValue 4).run Try.prog w = .ok (.bool false) w := by kernel_rfl
set_option maxRecDepth 100000 in
theorem keyMk (s t : ByteArray) (hs : s.size ≤ maxLen) (ht : t.size ≤ maxLen) : ∃ kl, keyOf Try.prog 104 (.agg #[.string s, .string t]) = some kl := by
  have hkt : Try.prog.keyType 104 = true := by kernel_rfl
  have hsz : ∃ m, Try.prog.types.size = m + 1 := ⟨_, rfl⟩
  have hc : Try.prog.cellsOf 104 = 2 := by kernel_rfl
  have hc9 : Try.prog.cellsOf 9 = 1 := by kernel_rfl
  obtain ⟨m, hm⟩ := hsz
  unfold keyOf
  simp only [Try.underlying104]
  rw [if_pos (by simp [hkt, Value.formed, Try.underlying104, hc])]
  unfold Program.keyLits
  simp only [Try.underlying104, Value.cells]
  simp [hm, hc, hc9, Program.keyLits, Try.underlying9, hs, ht]
def MarkM (w : World) (mb n : Nat) : Prop := ∃ D : DataW Unit, w.ownsMap Try.prog 104 (plainElem Try.prog 4) mb n D
end Go.Proofs.Ytkoobkcmmfdlhaa
