/- From the rows' list of package-level variables to the facts on memory that the walks use. -/
import Derived.OpenShut
import Derived.Lib.LaidTab
import Derived.Test.YtjbjpkhibcnenaaGreatDoorComp
import Derived.Test.YtjbjpkhibcnenaaGreatDoorRows
namespace Go.Proofs.YtjbjpkhibcnenaaGreatDoor
open Go.RowKit
theorem gStart : Tryz.prog.globalNamed "bourne/digest.start" = some 0 := by kernel_rfl
theorem gStartT : (Tryz.prog.globals[0]?).map (·.type) = some 198 := by kernel_rfl
theorem gOrders : Tryz.prog.globalNamed "bourne/digest.orders" = some 3 := by kernel_rfl
theorem gOrdersT : (Tryz.prog.globals[3]?).map (·.type) = some 205 := by kernel_rfl
theorem undOrd : Tryz.prog.underlying 205 = some (.array 10 204) := by kernel_rfl
theorem undW : Tryz.prog.underlying 148 = some (.int .u32) := by kernel_rfl
theorem undBy : Tryz.prog.underlying 5 = some (.int .u8) := by kernel_rfl
theorem coW : Tryz.prog.cellsOf 148 = 1 := by kernel_rfl
theorem coA8 : Tryz.prog.cellsOf 198 = 8 := by kernel_rfl
theorem coB : Tryz.prog.cellsOf 5 = 1 := by kernel_rfl
theorem coB16 : Tryz.prog.cellsOf 204 = 16 := by kernel_rfl
theorem size2 {W : World} (h : ∃ cs, W.var? Tryz.prog "bourne/digest.orders" = some cs) : 3 + 1 ≤ W.heap.size := by
  obtain ⟨cs, h⟩ := h
  simp only [World.var?, gOrders, Option.bind_some] at h
  rcases Nat.lt_or_ge 3 W.heap.size with hlt | hge
  · omega
  · rw [Array.getElem?_eq_none hge] at h; cases h
theorem glob_of_laid {W : World} {rest : List (String × DataW Unit)} (h : laidMet Tryz.prog (("bourne/digest.start", Rows.laid_bourne_digest_start) :: ("bourne/digest.orders", Rows.laid_bourne_digest_orders) :: rest) W) : Glob W := by
  obtain ⟨ps, ⟨g1, t1, cs1, f1, p1, q1, hg1, ht1, hv1, hd1, ⟨g2, t2, cs2, f2, p2, q2, hg2, ht2, hv2, hd2, _⟩, _⟩, _⟩ := h
  obtain rfl := Option.some.inj (gStart.symm.trans hg1)
  obtain rfl := Option.some.inj (gStartT.symm.trans ht1)
  obtain rfl := Option.some.inj (gOrders.symm.trans hg2)
  obtain rfl := Option.some.inj (gOrdersT.symm.trans ht2)
  have e1 := Lib.cells_of_tab (zs := startL) (k := .u32) undA8 undW coW coA8 hd1
  refine ⟨fun j v hv => ?_, fun r hr j v hv => ?_, size2 ⟨_, hv2⟩⟩
  · have := World.var?_cell gStart hv1 j
    rw [Nat.zero_add, this, ← Array.getElem?_toList, e1]
    exact hv
  · obtain ⟨xs, m, hf, hx, hlen, hxl, hi⟩ := DataW.trod_array undOrd hd2
    have hxs : xs.map (·.1) = ordL.map fun row => Lib.tabData .u8 row := by
      have := congrArg Prod.fst hx
      exact (DataW.agg.inj this).symm
    have hrow : (xs.map (·.1))[r]? = (ordL.map fun row => Lib.tabData .u8 row)[r]? := by rw [hxs]
    obtain ⟨row, hrow1, hrow2⟩ := ordL_row r hr
    have h1 := hi r hr
    rw [coB16] at h1
    cases hxr : xs[r]? with
    | none =>
      have := List.getElem?_eq_none_iff.1 hxr
      omega
    | some y =>
      rw [hxr] at h1
      simp only [List.getElem?_map, hxr, hrow1, Option.map_some, Option.some.injEq] at hrow
      obtain ⟨y1, y2⟩ := y
      simp only at hrow
      subst hrow
      have e2 := Lib.cells_of_tab undB16 undBy coB coB16 h1
      have := World.var?_cell gOrders hv2 (r * 16 + j)
      rw [this]
      have hj : j < 16 := by
        have hj := (List.getElem?_eq_some_iff.1 hv).1
        rw [ordRow_len r hr] at hj
        exact hj
      have h3 : ((cs2.toList.drop (r * 16)).take 16)[j]? = (row.map fun z => Value.int .u8 z)[j]? := by rw [e2]
      rw [List.getElem?_take, if_pos hj, List.getElem?_drop] at h3
      simp only [ordRow, hrow1, Option.getD_some] at hv
      rw [← hv, ← h3, Array.getElem?_toList]
end Go.Proofs.YtjbjpkhibcnenaaGreatDoor

