/- A basin that came in, in memory. -/
import Derived.Test.YtkoobkcmmfdlhaaBSteep
import Derived.Test.YtkoobkcmmfdlhaaBOpen
namespace Go.Proofs.Ytkoobkcmmfdlhaa
open Go.RowKit
structure BasinS (b : BasinV) (p0 p1 p2 p3 p4 p5 p6 p7 : Option Addr) (q0 q1 q2 q3 q4 q5 q6 q7 : Nat) (w : World) : Prop where
  l0 : LArg RStr 1 (.slice p0 b.owners.length q0) b.owners w
  l1 : LArg RPlace 12 (.slice p1 b.places.length q1) b.places w
  l2 : LArg RLink 18 (.slice p2 b.links.length q2) b.links w
  l3 : LArg RTown 7 (.slice p3 b.towns.length q3) b.towns w
  l4 : LArg RGauge 5 (.slice p4 b.gauges.length q4) b.gauges w
  l5 : LArg RRoad 7 (.slice p5 b.roads.length q5) b.roads w
  l6 : LArg RShelter 2 (.slice p6 b.shelters.length q6) b.shelters w
  l7 : LArg RInt 1 (.slice p7 b.room.length q7) b.room w
theorem BasinS.below {b : BasinV} {p0 p1 p2 p3 p4 p5 p6 p7 : Option Addr} {q0 q1 q2 q3 q4 q5 q6 q7 : Nat} {w w' : World} (h : BasinS b p0 p1 p2 p3 p4 p5 p6 p7 q0 q1 q2 q3 q4 q5 q6 q7 w) (hb : Below w.heap.size w w') : BasinS b p0 p1 p2 p3 p4 p5 p6 p7 q0 q1 q2 q3 q4 q5 q6 q7 w' :=
  ⟨h.l0.below stays_str hb, h.l1.below stays_Place hb, h.l2.below stays_Link hb, h.l3.below stays_Town hb, h.l4.below stays_Gauge hb, h.l5.below stays_Road hb, h.l6.below stays_Shelter hb, h.l7.below stays_int hb⟩
/-- what rightHead asks of the lengths -/
def BasinLen (b : BasinV) : Prop := 1 ≤ b.owners.length ∧ b.owners.length ≤ 16 ∧ 1 ≤ b.places.length ∧ b.places.length ≤ 64 ∧ b.links.length ≤ 96 ∧ b.towns.length ≤ 40 ∧ b.gauges.length ≤ 128 ∧ b.roads.length ≤ 128 ∧ b.shelters.length ≤ 40 ∧ b.room.length ≤ 3
/-- a Bool that, if true, says P -/
def RetT (P : Prop) (w : World) (e : Ending) (w' : World) : Prop := ∃ b : Bool, (b = true → P) ∧ e = .returned (.bool b) ∧ Below w.heap.size w w'
theorem retT_no {P : Prop} {w w' : World} (hb : Below w.heap.size w w') : RetT P w (.returned (.bool false)) w' := ⟨false, (fun h => by cases h), rfl, hb⟩
theorem retT_yes {P : Prop} {w w' : World} (h : P) (hb : Below w.heap.size w w') : RetT P w (.returned (.bool true)) w' := ⟨true, fun _ => h, rfl, hb⟩
theorem undTn : Try.prog.underlying 85 = some (.struct (Try.prog.fieldsOf 85)) := by kernel_rfl
theorem infoTn : (Try.prog.info? 85).map (·.size) = some 7 := by kernel_rfl
theorem undGg : Try.prog.underlying 89 = some (.struct (Try.prog.fieldsOf 89)) := by kernel_rfl
theorem infoGg : (Try.prog.info? 89).map (·.size) = some 5 := by kernel_rfl
theorem undRo : Try.prog.underlying 91 = some (.struct (Try.prog.fieldsOf 91)) := by kernel_rfl
theorem infoRo : (Try.prog.info? 91).map (·.size) = some 7 := by kernel_rfl
theorem undSh : Try.prog.underlying 87 = some (.struct (Try.prog.fieldsOf 87)) := by kernel_rfl
theorem infoSh : (Try.prog.info? 87).map (·.size) = some 2 := by kernel_rfl
theorem undPl : Try.prog.underlying 83 = some (.struct (Try.prog.fieldsOf 83)) := by kernel_rfl
theorem infoPl : (Try.prog.info? 83).map (·.size) = some 12 := by kernel_rfl
theorem undBa : Try.prog.underlying 45 = some (.struct (Try.prog.fieldsOf 45)) := by kernel_rfl
theorem infoBa : (Try.prog.info? 45).map (·.size) = some 11 := by kernel_rfl
end Go.Proofs.Ytkoobkcmmfdlhaa
