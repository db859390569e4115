/- bournelaw19.GateBounds at what came in. -/
import Derived.Test.YtkoobkcmmfdlhaaUGBounds
namespace Go.Proofs.Ytkoobkcmmfdlhaa
open Go.RowKit
theorem gbounds_in (b : BasinV) (cs : List Value) (i : Int) (g : GateV) (ds : List Value) (k : KnownV) (es : List Value) (fr : SpanV) (fs : List Value) (tt : SpanV) (ts : List Value) (v y : Int) (vc : Value) (c : List PointV) (w : World) (hB : RBasin b cs w) (hg : RGate g ds w) (hk : RKnown k es w) (hf : RSpan fr fs w) (ht : RSpan tt ts w) (hc : LArg RPoint 2 vc c w) :
    Calls Try.prog 6 #[.agg cs.toArray, .int .i64 i, .agg ds.toArray, .agg es.toArray, .agg fs.toArray, .agg ts.toArray, .int .i64 v, .int .i64 y, vc] w fun e w' => e = .returned (.bool true) ∧ Below w.heap.size w w' := by
  obtain ⟨v0, v1, v2, v3, v4, v5, v6, v7, rfl, hnm, -, -, l0, l1, l2, l3, l4, l5, l6, l7⟩ := hB
  obtain ⟨p0, q0, rfl, -, -⟩ := l0.slice
  obtain ⟨p1, q1, rfl, -, -⟩ := l1.slice
  obtain ⟨p2, q2, rfl, -, -⟩ := l2.slice
  obtain ⟨p3, q3, rfl, -, -⟩ := l3.slice
  obtain ⟨p4, q4, rfl, -, -⟩ := l4.slice
  obtain ⟨p5, q5, rfl, -, -⟩ := l5.slice
  obtain ⟨p6, q6, rfl, -, -⟩ := l6.slice
  obtain ⟨p7, q7, rfl, -, -⟩ := l7.slice
  obtain ⟨rfl, -, -⟩ := hg
  obtain ⟨rfl, -, -, -, -, -⟩ := hk
  obtain ⟨rfl, -, -⟩ := hf
  obtain ⟨rfl, -, -⟩ := ht
  obtain ⟨pc, qc, rfl, -, -⟩ := hc.slice
  exact gbounds_core b p0 p1 p2 p3 p4 p5 p6 p7 q0 q1 q2 q3 q4 q5 q6 q7 i g k fr tt v y c pc qc w ⟨l0, l1, l2, l3, l4, l5, l6, l7⟩ hnm hc
end Go.Proofs.Ytkoobkcmmfdlhaa
