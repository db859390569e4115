/- sign.Of, Right. -/
import Derived.Test.YtgjklfddoechpaaDoorSNonce
import Derived.Laws.Rows
import Derived.Outline
namespace Go.Proofs.YtgjklfddoechpaaDoor
open Go.RowKit
theorem undKey : Tryd.prog.underlying 39 = some (.struct (Tryd.prog.fieldsOf 39)) := by kernel_rfl
theorem infoKey : (Tryd.prog.info? 39).map (·.size) = some 2 := by kernel_rfl
/-- the power of the generator -/
def pubN (x : Nat) : Nat := 4 ^ x % gP
theorem two_set {w : World} {b : Nat} {x y u0 u1 : Value} {t : TypeId} (h : w.heap[b]? = some (.cells #[x, y] t (0, 0))) : ((w.setCell ⟨b, 0, none⟩ u0).setCell ⟨b, 1, none⟩ u1).heap[b]? = some (.cells #[u0, u1] t (0, 0)) := by
  have h1 := heap_setCell_same _ b 0 _ _ u0 h
  have h2 := heap_setCell_same _ b 1 _ _ u1 h1
  exact h2.trans rfl
set_option maxRecDepth 100000 in
set_option maxHeartbeats 2000000 in
theorem of_any (x : Nat) (w : World) (h1 : 1 ≤ x) (h2 : x < 1152921504606845789) :
    Calls Tryd.prog 35 #[.int .i64 x] w fun e w' => e = .returned (.agg #[.int .i64 x, .int .i64 (pubN x : Nat)]) ∧ Below w.heap.size w w' := by
  have HZ := Lib.hid (heap_alloc_new w (.cells #[.int .i64 0, .int .i64 0] 39))
  have HB := Lib.hid ((Below.refl w.heap.size w).alloc (Nat.le_refl _) (.cells #[.int .i64 0, .int .i64 0] 39))
  obtain ⟨z, hz⟩ : ∃ z, z = pubN x := ⟨_, rfl⟩
  have HE : Hid (resN 4 gP ^ ((x : Int)).toNat % gP = z) := Lib.hid (by rw [hz, Int.toNat_natCast]; rfl)
  rw [← hz]
  clear hz
  go_enter Tryd.func35, Tryd.ntmps35
  go_wp2_with fail
  refine (exp_any 4 x _ (by decide) ⟨by omega, by omega⟩).mono ?_
  rintro e w1 ⟨rfl, n, rfl⟩
  rw [HE.out]
  go_wp2_with fail
  refine bodyPost_ret (v := .agg #[.int .i64 x, .int .i64 z]) (results_cell_row rfl _ _ _ 39 _ (0, 0) _ rfl (two_set (w := (w.alloc (.cells #[.int .i64 0, .int .i64 0] 39)).drewN n) HZ.out) undKey rfl infoKey) rfl ⟨rfl, ?_⟩
  exact ((show Below w.heap.size w ((w.alloc (.cells #[.int .i64 0, .int .i64 0] 39)).drewN n) from below_drewN HB.out).setCell (Nat.le_refl _) _).setCell (Nat.le_refl _) _
set_option maxRecDepth 100000 in
set_option maxHeartbeats 2000000 in
theorem of_none (x : Int) (w : World) (h : x < 1 ∨ 1152921504606845789 ≤ x) :
    Calls Tryd.prog 35 #[.int .i64 x] w fun e w' => e = .returned (.agg #[.int .i64 0, .int .i64 0]) ∧ Below w.heap.size w w' := by
  have HZ := Lib.hid (heap_alloc_new w (.cells #[.int .i64 0, .int .i64 0] 39))
  have HB := Lib.hid ((Below.refl w.heap.size w).alloc (Nat.le_refl _) (.cells #[.int .i64 0, .int .i64 0] 39))
  by_cases h1 : x < 1
  · clear h
    go_enter Tryd.func35, Tryd.ntmps35
    go_wp2_with fail
    refine bodyPost_ret (v := .agg #[.int .i64 0, .int .i64 0]) (results_cell_row rfl _ _ _ 39 _ (0, 0) _ rfl HZ.out undKey rfl infoKey) rfl ⟨rfl, HB.out⟩
  · have h2 : 1152921504606845789 ≤ x := by omega
    clear h
    go_enter Tryd.func35, Tryd.ntmps35
    go_wp2_with fail
    refine bodyPost_ret (v := .agg #[.int .i64 0, .int .i64 0]) (results_cell_row rfl _ _ _ 39 _ (0, 0) _ rfl HZ.out undKey rfl infoKey) rfl ⟨rfl, HB.out⟩
end Go.Proofs.YtgjklfddoechpaaDoor
