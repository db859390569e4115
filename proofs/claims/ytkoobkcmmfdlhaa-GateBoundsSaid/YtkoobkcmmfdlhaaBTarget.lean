/- basin.target. -/
import Derived.Test.YtkoobkcmmfdlhaaBCtx
namespace Go.Proofs.Ytkoobkcmmfdlhaa
open Go.RowKit
def targB (n : Nat) (src dst : Int) : Bool := dst == -1 || (inB dst 0 ((n : Int) - 1) && dst != src)
theorem targB_iff {n : Nat} {src dst : Int} (h : targB n src dst = true) : dst = -1 ∨ (0 ≤ dst ∧ dst < n) := by
  unfold targB at h
  simp only [Bool.or_eq_true, Bool.and_eq_true, beq_iff_eq] at h
  rcases h with h | ⟨h, _⟩
  · exact Or.inl h
  · have := inB_iff.1 h
    exact Or.inr (by omega)
set_option maxRecDepth 100000 in
set_option maxHeartbeats 4000000 in
theorem target_any (b : BasinV) (p0 p1 p2 p3 p4 p5 p6 p7 : Option Addr) (q0 q1 q2 q3 q4 q5 q6 q7 : Nat) (src dst : Int) (w : World) (hn : b.places.length ≤ 1000) : Calls Try.prog 51 #[.agg #[.string b.name, .slice p0 b.owners.length q0, .int .i64 b.cells, .slice p1 b.places.length q1, .slice p2 b.links.length q2, .slice p3 b.towns.length q3, .slice p4 b.gauges.length q4, .slice p5 b.roads.length q5, .slice p6 b.shelters.length q6, .slice p7 b.room.length q7, .int .i64 b.err], .int .i64 src, .int .i64 dst] w (RetB (targB b.places.length src dst) w) := by
  cases h1 : (dst == -1)
  · cases h2 : inB dst 0 ((b.places.length : Int) - 1)
    · have HE : Hid (targB b.places.length src dst = false) := Lib.hid (by unfold targB; rw [h1, h2]; rfl)
      have H2 := Lib.hid h2
      clear h2
      go_enter Try.func51, Try.ntmps51
      go_wp2_with fail
      refine (index_any dst (b.places.length : Nat) _ (by omega)).mono ?_
      rintro e w1 ⟨rfl, rfl⟩
      rw [H2.out]
      go_wp2_with fail
      go_ret
      exact retB_mk HE.out ((Below.refl _ _).alloc (Nat.le_refl _) _)
    · cases h3 : (dst != src)
      · have HE : Hid (targB b.places.length src dst = false) := Lib.hid (by unfold targB; rw [h1, h2, h3]; rfl)
        have H2 := Lib.hid h2
        clear h2
        go_enter Try.func51, Try.ntmps51
        go_wp2_with fail
        refine (index_any dst (b.places.length : Nat) _ (by omega)).mono ?_
        rintro e w1 ⟨rfl, rfl⟩
        rw [H2.out]
        go_wp2_with fail
        go_ret
        exact retB_mk HE.out ((Below.refl _ _).alloc (Nat.le_refl _) _)
      · have HE : Hid (targB b.places.length src dst = true) := Lib.hid (by unfold targB; rw [h1, h2, h3]; rfl)
        have H2 := Lib.hid h2
        clear h2
        go_enter Try.func51, Try.ntmps51
        go_wp2_with fail
        refine (index_any dst (b.places.length : Nat) _ (by omega)).mono ?_
        rintro e w1 ⟨rfl, rfl⟩
        rw [H2.out]
        go_wp2_with fail
        go_ret
        exact retB_mk HE.out ((Below.refl _ _).alloc (Nat.le_refl _) _)
  · have HE : Hid (targB b.places.length src dst = true) := Lib.hid (by unfold targB; rw [h1]; rfl)
    go_enter Try.func51, Try.ntmps51
    go_wp2_with fail
    go_ret
    exact retB_mk HE.out ((Below.refl _ _).alloc (Nat.le_refl _) _)
end Go.Proofs.Ytkoobkcmmfdlhaa
