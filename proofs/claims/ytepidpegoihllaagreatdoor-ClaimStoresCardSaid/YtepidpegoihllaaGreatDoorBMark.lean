/- Names of a basin: a key. -/
import Derived.Maps.OwnSet
import Derived.Maps.OwnOps
import Derived.DeepKeys4
import Derived.Test.YtepidpegoihllaaGreatDoorBCtx
namespace Go.Proofs.YtepidpegoihllaaGreatDoor
open Go.RowKit Go.Maps
theorem undMk : Tryz.prog.underlying 148 = some (.struct (Tryz.prog.fieldsOf 148)) := by kernel_rfl
theorem rowMk : 148 < Tryz.prog.types.size := of_decide_eq_true (by kernel_rfl)
theorem laidB : laidOutB Tryz.prog = true := by kernel_rfl
theorem wideMk : (match Tryz.prog.underlying 148 with | some (.array _ _) | some (.struct _) => true | _ => false) = true := by rw [undMk]
set_option maxRecDepth 100000 in
theorem lawMk : Keyed Tryz.prog 148 := Keyed.of_law (deep_law_laid laidB (m := 2) (by omega) rowMk (by kernel_rfl) wideMk)
theorem undMm : Tryz.prog.underlying 99 = some (.map 148 4) := by kernel_rfl
theorem zeroBo (w : World) : (zeroValue 4).run Tryz.prog w = .ok (.bool false) w := by kernel_rfl
set_option maxRecDepth 100000 in
theorem keyMk (s t : ByteArray) (hs : s.size ≤ maxLen) (ht : t.size ≤ maxLen) : ∃ kl, keyOf Tryz.prog 148 (.agg #[.string s, .string t]) = some kl := by
  have hkt : Tryz.prog.keyType 148 = true := by kernel_rfl
  have hsz : ∃ m, Tryz.prog.types.size = m + 1 := ⟨_, rfl⟩
  have hc : Tryz.prog.cellsOf 148 = 2 := by kernel_rfl
  have hc9 : Tryz.prog.cellsOf 9 = 1 := by kernel_rfl
  obtain ⟨m, hm⟩ := hsz
  unfold keyOf
  simp only [Tryz.underlying148]
  rw [if_pos (by simp [hkt, Value.formed, Tryz.underlying148, hc])]
  unfold Program.keyLits
  simp only [Tryz.underlying148, Value.cells]
  simp [hm, hc, hc9, Program.keyLits, Tryz.underlying9, hs, ht]
def MarkM (w : World) (mb n : Nat) : Prop := ∃ D : DataW Unit, w.ownsMap Tryz.prog 148 (plainElem Tryz.prog 4) mb n D
end Go.Proofs.YtepidpegoihllaaGreatDoor

