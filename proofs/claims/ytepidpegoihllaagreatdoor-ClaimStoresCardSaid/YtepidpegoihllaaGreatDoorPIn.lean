/- bournelaw45.ClaimStores for arguments that came in. -/
import Derived.Test.YtepidpegoihllaaGreatDoorPCore
import Derived.Test.YtepidpegoihllaaGreatDoorPLaw
import Derived.Test.YtepidpegoihllaaGreatDoorSShelf
namespace Go.Proofs.YtepidpegoihllaaGreatDoor
open Go.RowKit
set_option maxRecDepth 100000 in
theorem arg_basinS {H : Type} {enc : TypeId × Value → H} {W : World} {base : Nat} {v : Value} {d : DataW H} {ps : List MemPlace} (hval : Value.okWide Tryz.prog W .any base 31 v)
    (h : DataW.Trod enc Tryz.prog W 0 (fun _ => true) true 31 v d ps) : ∃ x : BasinV, (∃ cs : List Value, v = .agg cs.toArray ∧ RBasin x cs W) ∧ True := by
  obtain ⟨x, cs, h1, h2⟩ := arg_Basin hval h
  exact ⟨x, ⟨cs, h1, h2⟩, trivial⟩
set_option maxRecDepth 100000 in
theorem arg_stateS {H : Type} {enc : TypeId × Value → H} {W : World} {base : Nat} {v : Value} {d : DataW H} {ps : List MemPlace} (hval : Value.okWide Tryz.prog W .any base 36 v)
    (h : DataW.Trod enc Tryz.prog W 0 (fun _ => true) true 36 v d ps) : ∃ x : StateV, (∃ cs : List Value, v = .agg cs.toArray ∧ RState x cs W) ∧ True := by
  obtain ⟨x, cs, h1, h2⟩ := arg_State hval h
  exact ⟨x, ⟨cs, h1, h2⟩, trivial⟩
set_option maxRecDepth 100000 in
theorem stores_in (vb : Value) (b : BasinV) (vs : Value) (s : StateV) (i1 i2 : Int) (prev : ByteArray) (W : World) (hb : ∃ cs : List Value, vb = .agg cs.toArray ∧ RBasin b cs W) (_ : True) (hs : ∃ cs : List Value, vs = .agg cs.toArray ∧ RState s cs W) (_ : True) (hg : Glob W) (hml : MLen W) :
    Calls Tryz.prog 3 #[vb, vs, .int .i64 i1, .int .i64 i2, .string prev] W fun e w' => e = .returned (.bool true) ∧ Below W.heap.size W w' := by
  obtain ⟨cs, rfl, v0, v1, v2, v3, v4, v5, v6, v7, rfl, hnm, -, -, l0, l1, l2, l3, l4, l5, l6, l7⟩ := hb
  obtain ⟨p0, q0, rfl, -, -⟩ := l0.slice
  obtain ⟨p1, q1, rfl, -, -⟩ := l1.slice
  obtain ⟨p2, q2, rfl, -, -⟩ := l2.slice
  obtain ⟨p3, q3, rfl, -, -⟩ := l3.slice
  obtain ⟨p4, q4, rfl, -, -⟩ := l4.slice
  obtain ⟨p5, q5, rfl, -, -⟩ := l5.slice
  obtain ⟨p6, q6, rfl, -, -⟩ := l6.slice
  obtain ⟨p7, q7, rfl, -, -⟩ := l7.slice
  obtain ⟨cs, rfl, u0, u1, u2, u3, u4, u5, rfl, -, m0, m1, m2, m3, m4, m5⟩ := hs
  obtain ⟨po, qo, rfl, -, -⟩ := m0.slice
  obtain ⟨pr, qr, rfl, -, -⟩ := m1.slice
  obtain ⟨pq, qq, rfl, -, -⟩ := m2.slice
  obtain ⟨pg, qg, rfl, -, -⟩ := m3.slice
  obtain ⟨pi, qi, rfl, -, -⟩ := m4.slice
  obtain ⟨pu, qu, rfl, -, -⟩ := m5.slice
  exact stores_core b p0 p1 p2 p3 p4 p5 p6 p7 q0 q1 q2 q3 q4 q5 q6 q7 s po pr pq pg pi pu qo qr qq qg qi qu i1 i2 prev W ⟨l0, l1, l2, l3, l4, l5, l6, l7⟩ hnm ⟨m0, m2⟩ m1 m3 m4 m5 hg hml
end Go.Proofs.YtepidpegoihllaaGreatDoor

