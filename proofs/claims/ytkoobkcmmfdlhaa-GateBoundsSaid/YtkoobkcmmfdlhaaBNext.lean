/- basin.next. -/
import Derived.Test.YtkoobkcmmfdlhaaBTarget
namespace Go.Proofs.Ytkoobkcmmfdlhaa
open Go.RowKit
set_option maxRecDepth 100000 in
set_option maxHeartbeats 4000000 in
theorem next_any (b : BasinV) (p0 p1 p2 p3 p4 p5 p6 p7 : Option Addr) (q0 q1 q2 q3 q4 q5 q6 q7 : Nat) (office dst : Int) (w : World) (hpl : LArg RPlace 12 (.slice p1 b.places.length q1) b.places w) (hd : dst = -1 ∨ (0 ≤ dst ∧ dst < b.places.length)) (ho : 0 ≤ office ∧ office ≤ 1000) : Calls Try.prog 55 #[.agg #[.string b.name, .slice p0 b.owners.length q0, .int .i64 b.cells, .slice p1 b.places.length q1, .slice p2 b.links.length q2, .slice p3 b.towns.length q3, .slice p4 b.gauges.length q4, .slice p5 b.roads.length q5, .slice p6 b.shelters.length q6, .slice p7 b.room.length q7, .int .i64 b.err], .int .i64 office, .int .i64 dst] w (RetT True w) := by
  have HP := Lib.hid hpl
  obtain ⟨o1, o2⟩ := ho
  clear hpl
  by_cases h1 : dst = -1
  · have t1 : (dst == -1) = true := beq_iff_eq.2 h1
    clear hd h1
    go_enter Try.func55, Try.ntmps55
    go_upto_region 1 with fail
    have HR0 := Lib.hid (heap_alloc_new w (.cells #[.string b.name, .slice p0 b.owners.length q0, .int .i64 b.cells, .slice p1 b.places.length q1, .slice p2 b.links.length q2, .slice p3 b.towns.length q3, .slice p4 b.gauges.length q4, .slice p5 b.roads.length q5, .slice p6 b.shelters.length q6, .slice p7 b.room.length q7, .int .i64 b.err] 45))
    have hbw : Below w.heap.size w (w.alloc (.cells #[.string b.name, .slice p0 b.owners.length q0, .int .i64 b.cells, .slice p1 b.places.length q1, .slice p2 b.links.length q2, .slice p3 b.towns.length q3, .slice p4 b.gauges.length q4, .slice p5 b.roads.length q5, .slice p6 b.shelters.length q6, .slice p7 b.room.length q7, .int .i64 b.err] 45)) := (Below.refl w.heap.size w).alloc (Nat.le_refl _) (.cells #[.string b.name, .slice p0 b.owners.length q0, .int .i64 b.cells, .slice p1 b.places.length q1, .slice p2 b.links.length q2, .slice p3 b.towns.length q3, .slice p4 b.gauges.length q4, .slice p5 b.roads.length q5, .slice p6 b.shelters.length q6, .slice p7 b.room.length q7, .int .i64 b.err] 45)
    have HB0 := Lib.hid hbw
    generalize w.alloc (.cells #[.string b.name, .slice p0 b.owners.length q0, .int .i64 b.cells, .slice p1 b.places.length q1, .slice p2 b.links.length q2, .slice p3 b.towns.length q3, .slice p4 b.gauges.length q4, .slice p5 b.roads.length q5, .slice p6 b.shelters.length q6, .slice p7 b.room.length q7, .int .i64 b.err] 45) = w0 at *
    go_wp2_with fail
    go_ret
    exact ⟨_, (fun _ => trivial), rfl, HB0.out⟩
  · have t1 : (dst == -1) = false := beq_eq_false_iff_ne.2 h1
    obtain ⟨k, rfl⟩ : ∃ k : Nat, dst = k := ⟨dst.toNat, by omega⟩
    have hk : k < b.places.length := by omega
    clear hd h1
    go_enter Try.func55, Try.ntmps55
    go_upto_region 1 with fail
    have HR0 := Lib.hid (heap_alloc_new w (.cells #[.string b.name, .slice p0 b.owners.length q0, .int .i64 b.cells, .slice p1 b.places.length q1, .slice p2 b.links.length q2, .slice p3 b.towns.length q3, .slice p4 b.gauges.length q4, .slice p5 b.roads.length q5, .slice p6 b.shelters.length q6, .slice p7 b.room.length q7, .int .i64 b.err] 45))
    have hbw : Below w.heap.size w (w.alloc (.cells #[.string b.name, .slice p0 b.owners.length q0, .int .i64 b.cells, .slice p1 b.places.length q1, .slice p2 b.links.length q2, .slice p3 b.towns.length q3, .slice p4 b.gauges.length q4, .slice p5 b.roads.length q5, .slice p6 b.shelters.length q6, .slice p7 b.room.length q7, .int .i64 b.err] 45)) := (Below.refl w.heap.size w).alloc (Nat.le_refl _) (.cells #[.string b.name, .slice p0 b.owners.length q0, .int .i64 b.cells, .slice p1 b.places.length q1, .slice p2 b.links.length q2, .slice p3 b.towns.length q3, .slice p4 b.gauges.length q4, .slice p5 b.roads.length q5, .slice p6 b.shelters.length q6, .slice p7 b.room.length q7, .int .i64 b.err] 45)
    have HB0 := Lib.hid hbw
    obtain ⟨x, hx⟩ : ∃ x, b.places[k]? = some x := ⟨_, List.getElem?_eq_getElem hk⟩
    obtain ⟨g, o, cs, ha, hbl, _, hrg, hcs⟩ := (HP.out.below stays_Place hbw).at hx
    subst ha
    obtain ⟨v0, v1, v2, rfl, -⟩ := hcs
    generalize w.alloc (.cells #[.string b.name, .slice p0 b.owners.length q0, .int .i64 b.cells, .slice (some ⟨g, o, none⟩) b.places.length q1, .slice p2 b.links.length q2, .slice p3 b.towns.length q3, .slice p4 b.gauges.length q4, .slice p5 b.roads.length q5, .slice p6 b.shelters.length q6, .slice p7 b.room.length q7, .int .i64 b.err] 45) = w0 at *
    have c2 : w0.cell? ⟨g, o + k * 12 + 2, none⟩ = some (.int .i64 x.office) := hrg 2 _ rfl
    have b3 := rowN HR0.out 3 (.slice (some ⟨g, o, none⟩) b.places.length q1) rfl
    have c2' := c2
    clear hrg hx hbw c2'
    cases t2 : (x.office == office)
    · go_wp2_with fail
      go_ret
      exact ⟨_, (fun _ => trivial), rfl, HB0.out⟩
    · go_wp2_with fail
      go_ret
      exact ⟨_, (fun _ => trivial), rfl, HB0.out⟩
end Go.Proofs.Ytkoobkcmmfdlhaa
