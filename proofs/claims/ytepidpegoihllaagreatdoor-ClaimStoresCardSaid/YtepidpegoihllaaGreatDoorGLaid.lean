/- Texts merged: GArgs GGlob GLaid -/
import Derived.JoinedCond
import Derived.ProofKit
import Derived.OpenShut
import Derived.ChangeSlices
import Derived.SliceStrings
import Derived.Carry
import Derived.Shelf.Vars
import Derived.Test.YtepidpegoihllaaGreatDoorSHash
import Derived.Test.YtepidpegoihllaaGreatDoorRows
import Derived.Lib.LaidTab
import Derived.Test.YtepidpegoihllaaGreatDoorComp
import GoSem.PinnedTables
/- Arguments as the statements hand them over, turned into what the walks of package gram use. -/
namespace Go.Proofs.YtepidpegoihllaaGreatDoor
open Go.ChangeShapes Go.WideShapes Go.ChangeAt Go.RowKit Go.WideMaps Go.WideElems
open Go.ChangeMaps (open_string shut_string)
theorem own : ownKnob Tryz.prog.godebug = none := by kernel_rfl
theorem laidOut : laidOutB Tryz.prog = true := by kernel_rfl
theorem mlen_of {W : World} (h : W.ShapedOpen Tryz.prog) : MLen W :=
  Go.Proofs.cell_of_shapedOpen_int (zero := #[.int .i64 0]) (t := 3) h (of_decide_eq_true (by kernel_rfl)) (by kernel_rfl) rfl (by kernel_rfl) (by kernel_rfl) Tryz.underlying3
theorem trod_below {H : Type} {enc : TypeId × Value → H} {W : World} {t : TypeId} {v : Value} {d : DataW H} {ps : List MemPlace} (h : DataW.Trod enc Tryz.prog W 0 (fun _ => true) true t v d ps) : ∀ x ∈ ps, x.block < W.heap.size := fun x hx => by
  obtain ⟨n, h⟩ := h
  exact DataW.trod_lt n _ _ _ h x hx
end Go.Proofs.YtepidpegoihllaaGreatDoor
/- From the rows' list of package-level variables to the facts on memory that the walks use. -/
namespace Go.Proofs.YtepidpegoihllaaGreatDoor
open Go.RowKit
theorem gStart : Tryz.prog.globalNamed "bourne/digest.start" = some 0 := by kernel_rfl
theorem gStartT : (Tryz.prog.globals[0]?).map (·.type) = some 141 := by kernel_rfl
theorem gOrders : Tryz.prog.globalNamed "bourne/digest.orders" = some 1 := by kernel_rfl
theorem gOrdersT : (Tryz.prog.globals[1]?).map (·.type) = some 164 := by kernel_rfl
theorem undOrd : Tryz.prog.underlying 164 = some (.array 10 163) := by kernel_rfl
theorem undW : Tryz.prog.underlying 140 = some (.int .u32) := by kernel_rfl
theorem undBy : Tryz.prog.underlying 5 = some (.int .u8) := by kernel_rfl
theorem coW : Tryz.prog.cellsOf 140 = 1 := by kernel_rfl
theorem coA8 : Tryz.prog.cellsOf 141 = 8 := by kernel_rfl
theorem coB : Tryz.prog.cellsOf 5 = 1 := by kernel_rfl
theorem coB16 : Tryz.prog.cellsOf 163 = 16 := by kernel_rfl
theorem size2 {W : World} (h : ∃ cs, W.var? Tryz.prog "bourne/digest.orders" = some cs) : 1 + 1 ≤ W.heap.size := by
  obtain ⟨cs, h⟩ := h
  simp only [World.var?, gOrders, Option.bind_some] at h
  rcases Nat.lt_or_ge 1 W.heap.size with hlt | hge
  · omega
  · rw [Array.getElem?_eq_none hge] at h; cases h
theorem glob_of_laid {W : World} {rest : List (String × DataW Unit)} (h : laidMet Tryz.prog (("bourne/digest.start", Rows.laid_bourne_digest_start) :: ("bourne/digest.orders", Rows.laid_bourne_digest_orders) :: rest) W) : Glob W := by
  obtain ⟨ps, ⟨g1, t1, cs1, f1, p1, q1, hg1, ht1, hv1, hd1, ⟨g2, t2, cs2, f2, p2, q2, hg2, ht2, hv2, hd2, _⟩, _⟩, _⟩ := h
  obtain rfl := Option.some.inj (gStart.symm.trans hg1)
  obtain rfl := Option.some.inj (gStartT.symm.trans ht1)
  obtain rfl := Option.some.inj (gOrders.symm.trans hg2)
  obtain rfl := Option.some.inj (gOrdersT.symm.trans ht2)
  have e1 := Lib.cells_of_tab (zs := startL) (k := .u32) undA8 undW coW coA8 hd1
  refine ⟨fun j v hv => ?_, fun r hr j v hv => ?_, size2 ⟨_, hv2⟩⟩
  · have := World.var?_cell gStart hv1 j
    rw [Nat.zero_add, this, ← Array.getElem?_toList, e1]
    exact hv
  · obtain ⟨xs, m, hf, hx, hlen, hxl, hi⟩ := DataW.trod_array undOrd hd2
    have hxs : xs.map (·.1) = ordL.map fun row => Lib.tabData .u8 row := by
      have := congrArg Prod.fst hx
      exact (DataW.agg.inj this).symm
    have hrow : (xs.map (·.1))[r]? = (ordL.map fun row => Lib.tabData .u8 row)[r]? := by rw [hxs]
    obtain ⟨row, hrow1, hrow2⟩ := ordL_row r hr
    have h1 := hi r hr
    rw [coB16] at h1
    cases hxr : xs[r]? with
    | none =>
      have := List.getElem?_eq_none_iff.1 hxr
      omega
    | some y =>
      rw [hxr] at h1
      simp only [List.getElem?_map, hxr, hrow1, Option.map_some, Option.some.injEq] at hrow
      obtain ⟨y1, y2⟩ := y
      simp only at hrow
      subst hrow
      have e2 := Lib.cells_of_tab undB16 undBy coB coB16 h1
      have := World.var?_cell gOrders hv2 (r * 16 + j)
      rw [this]
      have hj : j < 16 := by
        have hj := (List.getElem?_eq_some_iff.1 hv).1
        rw [ordRow_len r hr] at hj
        exact hj
      have h3 : ((cs2.toList.drop (r * 16)).take 16)[j]? = (row.map fun z => Value.int .u8 z)[j]? := by rw [e2]
      rw [List.getElem?_take, if_pos hj, List.getElem?_drop] at h3
      simp only [ordRow, hrow1, Option.getD_some] at hv
      rw [← hv, ← h3, Array.getElem?_toList]
end Go.Proofs.YtepidpegoihllaaGreatDoor
/- A world for the witness: the settled one, with the tables of digest and of unicode/utf8 as their initialisers lay them. -/
namespace Go.Proofs.YtepidpegoihllaaGreatDoor
def acceptZ : List Int := [128, 191, 160, 191, 128, 159, 144, 191, 128, 143, 0, 0, 0, 0, 0, 0, 0, 0, 0, 0, 0, 0, 0, 0, 0, 0, 0, 0, 0, 0, 0, 0]
noncomputable def laidWorld (os : Os) : World :=
  { World.holding Tryz.prog os ⟨#[], #[], []⟩ with heap := ((((World.holding Tryz.prog os ⟨#[], #[], []⟩).heap.modify 6 (fun | .cells _ t frozen => .cells (acceptZ.map (Value.int .u8)).toArray t frozen | o => o)).modify 5 (fun | .cells _ t frozen => .cells (Go.Pinned.utf8FirstZ.map fun z : Nat => Value.int .u8 (z : Int)).toArray t frozen | o => o)).modify 0 (fun | .cells _ t frozen => .cells (u32v startL) t frozen | o => o)).modify 1 (fun | .cells _ t frozen => .cells (ordL.flatten.map (Value.int .u8)).toArray t frozen | o => o) }
end Go.Proofs.YtepidpegoihllaaGreatDoor
