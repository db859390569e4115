/- frame.stretches yields the stretches of a stream, in order. -/
import Derived.RangeFuncBox
import Derived.RangeFuncNested
import Derived.RangeFuncBound
import Derived.RangeFuncCalls
import Derived.RangeFuncLeaves
import Derived.Shelf.Abstract
import Derived.Shelf.RegionOpen
import Derived.WalkKit
import Derived.OwnWalkIn
import Derived.TacticsInMore
import Derived.LoopNIn
import Derived.LoopIn
import Derived.Maps.AppendAt
import Derived.Lib.Strings
import Derived.Test.YtmlfkhpmgjcliaaDoorHA
namespace Go.Proofs.YtmlfkhpmgjcliaaDoor
open Go.RowKit Go.Shelf
attribute [local go_sem] Oper.semAt_some
theorem stretches_any (s : ByteArray) (w : World) :
    Calls Tryd.prog 49 #[.string s] w fun e w' => e = .returned (.func (.func 63) #[] #[.pointer (some ⟨w.heap.size, 0, none⟩)]) ∧ w' = w.alloc (.cells #[.string s] 9) := by
  go_enter Tryd.func49, Tryd.ntmps49
  go_wp2
  go_ret
  exact ⟨rfl, rfl⟩
/-- block b lies as it lay -/
def KB (b : Nat) (W W' : World) : Prop := W'.heap[b]? = W.heap[b]?
theorem KB.trans {b : Nat} {A B C : World} (h : KB b A B) (k : KB b B C) : KB b A C := Eq.trans k h
theorem KB.cell {b : Nat} {A B : World} (h : KB b A B) {o : Nat} {v : Value} (hc : A.cell? ⟨b, o, none⟩ = some v) : B.cell? ⟨b, o, none⟩ = some v := (World.cell?_of_block (a := ⟨b, o, none⟩) h).trans hc
theorem KB.back {b : Nat} {w : World} (hb : b < w.heap.size) (W : World) (l : Nat) (o o' : Obj) (hl : w.heap.size ≤ l) (_ : W.heap[l]? = some o) (_ : o.isCells = false) (_ : o.isWalk = false) : KB b W (W.putObj l o') :=
  (grownBy_putObj' W l o').block b (by have := (Array.getElem?_eq_some_iff.1 ‹W.heap[l]? = some o›).1; omega) (fun e => by have := Option.some.inj e; omega)
set_option maxRecDepth 100000 in
set_option maxHeartbeats 2000000 in
theorem stretches1_in (n : Nat) (hn : 1 ≤ n) (l Bx : Nat) (s : ByteArray) (hs : s.size ≤ 100000) (J Jx : List ByteArray → World → Prop)
    (hY : ∀ pre x W, J pre W → pre.length < s.size + 1 → YieldAt Fence.wide (n - 1) Tryd.prog l #[.string x] W fun e W' =>
      (e = .returned (.bool true) ∧ J (pre ++ [x]) W' ∧ KB Bx W W') ∨ (e = .returned (.bool false) ∧ Jx (pre ++ [x]) W'))
    (W : World) (hc : W.cell? ⟨Bx, 0, none⟩ = some (.string s)) (h0 : J [] W) :
    CallsIn Fence.wide n Tryd.prog 63 #[.func (.yield l) #[] #[], .pointer (some ⟨Bx, 0, none⟩)] W fun e W' => (∃ v, e = .returned v) ∧
      ((∃ ys : List ByteArray, ys.map (fun x => x.data.toList) = strL s.data.toList ∧ J ys W') ∨ (∃ pre, True ∧ Jx pre W')) := by
  have hlen : s.data.toList.length = s.size := by simp
  have HL := Lib.hid hlen
  have h0' := Lib.hid h0
  clear hlen h0
  refine callsIn_of_wp Tryd.func63 rfl trivial ?_ rfl
  simp only [Tryd.ntmps63, List.size_toArray, List.length_cons, List.length_nil, Nat.reduceAdd, Nat.reduceSub, Array.replicate_succ, Array.replicate_zero, List.push_toArray, List.append_toArray, List.nil_append, List.cons_append]
  by_cases hi : Lib.indexByte s.data.toList 126 = -1
  · have hI := Lib.hid hi
    have HN := Lib.hid (idx_none _ hi)
    clear hi
    gi_wp2_with (refine ⟨trivial, ?_⟩; gi_at_call 53; refine (callsIn_wide.2 (Tryd.strings_IndexByte _ _ _)).mono ?_; rintro e w' ⟨rfl, rfl⟩; rw [show Lib.indexByte s.data.toList (Int.toNat 126).toUInt8 = -1 from hI.out])
    refine bodyPost_ret (results_none rfl _ _ _) rfl ?_
    exact ⟨⟨_, rfl⟩, .inl ⟨[], by rw [HN.out.2.1]; rfl, h0'.out⟩⟩
  · obtain ⟨m, h1, h2, h3, h4, h5, h6⟩ := idx_some _ hi
    have HI := Lib.hid h1
    have HS := Lib.hid h4
    have hm : m + 1 ≤ s.size := by have := HL.out; omega
    have hneg : (((m : Int) + 1) == 0) = false := beq_eq_false_iff_ne.2 (by omega)
    clear hi h1 h2 h3 h4 h5 h6
    gi_wp2_with (refine ⟨trivial, ?_⟩; gi_at_call 53; refine (callsIn_wide.2 (Tryd.strings_IndexByte _ _ _)).mono ?_; rintro e w' ⟨rfl, rfl⟩; rw [show Lib.indexByte s.data.toList (Int.toNat 126).toUInt8 = (m : Int) from HI.out])
    clear hneg
    gi_loopw [3] (fun v wr => ∃ (b : Nat) (pre : List ByteArray), 1 ≤ b ∧ b ≤ s.size ∧ v = .int .i64 (b : Int) ∧ pre.length ≤ b ∧ strL s.data.toList = pre.map (fun x => x.data.toList) ++ segs [] (s.data.toList.drop b) ∧ J pre wr ∧ KB Bx w' wr)
      (fun v _ => s.size - (intOf v).toNat)
    case atStart => exact ⟨m + 1, [], by omega, hm, rfl, by simp, by rw [HS.out]; rfl, h0'.out, rfl⟩
    case round =>
      obtain ⟨b, pre, hb1, hb2, rfl, hpl, hst, hJs, hnx⟩ := hrel
      have hcx : wr.cell? ⟨Bx, 0, none⟩ = some (.string s) := hnx.cell hc
      have HST := Lib.hid hst
      have HJ := Lib.hid hJs
      have HNX := Lib.hid hnx
      have HPL := Lib.hid hpl
      have hd : (s.extract b s.size).data.toList = s.data.toList.drop b := by
        rw [Lib.extract_data]
        exact List.take_of_length_le (by simp)
      clear hst hJs hnx HI HS hm hpl h0' hc
      by_cases hi : Lib.indexByte (s.data.toList.drop b) 126 = -1
      · have HI : Hid (Lib.indexByte (s.extract b s.size).data.toList (Int.toNat 126).toUInt8 = -1) := Lib.hid (by rw [hd]; exact hi)
        have HN := Lib.hid (idx_none _ hi)
        clear hi hd
        gi_wp2_with (refine ⟨trivial, ?_⟩; gi_at_call 53; refine (callsIn_wide.2 (Tryd.strings_IndexByte _ _ _)).mono ?_; rintro e w' ⟨rfl, rfl⟩; rw [HI.out])
        refine ⟨fun _ h => (by cases h), ?_⟩
        gi_wp2
        refine bodyPost_ret (results_none rfl _ _ _) rfl ?_
        exact ⟨⟨_, rfl⟩, .inl ⟨pre, by rw [HST.out, HN.out.1, List.append_nil], HJ.out⟩⟩
      · obtain ⟨q, h1, h2, h3, h4, h5, h6⟩ := idx_some _ hi
        have HI : Hid (Lib.indexByte (s.extract b s.size).data.toList (Int.toNat 126).toUInt8 = (q : Int)) := Lib.hid (by rw [hd]; exact h1)
        have hq : b + q + 1 ≤ s.size := by rw [List.length_drop, HL.out] at h2; omega
        have HS := Lib.hid (h3 [])
        clear hi h1 h2 h3 h4 h5 h6 hd
        obtain ⟨fn, tmps, assign, body, hy, hR⟩ := hY pre (s.extract b (b + q)) wr HJ.out (by have := HPL.out; omega)
        have y0 : (0 : Int) ≤ (b : Int) + (q : Int) := by omega
        have y1 : (b : Int) ≤ (b : Int) + (q : Int) := by omega
        have y2 : (b : Int) + (q : Int) ≤ (s.size : Int) := by omega
        have y3 : ((b : Int) + (q : Int)).toNat = b + q := by omega
        have y4 : decide ((q : Int) < 0) = false := by simp
        gi_wp2_with (refine ⟨trivial, ?_⟩; gi_at_call 53; refine (callsIn_wide.2 (Tryd.strings_IndexByte _ _ _)).mono ?_; rintro e w' ⟨rfl, rfl⟩; rw [HI.out])
        clear y0 y1 y2 y3 y4
        refine hR.mono ?_
        rintro e W3 (⟨rfl, hJ3, hk3⟩ | ⟨rfl, hJx3⟩)
        · gi_wp2
          go_roundw
          case rel =>
            refine ⟨b + (q + 1), pre ++ [s.extract b (b + q)], by omega, by omega, by go_num, by have := HPL.out; simp; omega, ?_, hJ3, HNX.out.trans hk3⟩
            rw [HST.out, HS.out, List.map_append, List.append_assoc, List.drop_drop]
            simp only [List.map_cons, List.map_nil, List.nil_append, List.cons_append]
            rw [Lib.extract_data, show b + q - b = q by omega]
          case measure => simp [intOf]; omega
        · gi_wp2
          refine bodyPost_ret (results_none rfl _ _ _) rfl ?_
          exact ⟨⟨_, rfl⟩, .inr ⟨_, trivial, hJx3⟩⟩
theorem stretches_stops (n : Nat) (hn : 1 ≤ n) (Bx : Nat) (s : ByteArray) (hs : s.size ≤ 100000) (w : World) (hBw : Bx < w.heap.size) (hc : w.cell? ⟨Bx, 0, none⟩ = some (.string s)) :
    SeqStopsK Fence.wide n Tryd.prog 63 #[.pointer (some ⟨Bx, 0, none⟩)] (fun x : ByteArray => #[Value.string x]) (KB Bx) (fun ys => ys.map (fun x => x.data.toList) = strL s.data.toList) (fun _ => True) (s.size + 1) w := fun l J Jx W hW _ _ hY h0 =>
  stretches1_in n hn l Bx s hs J Jx hY W ((hW.cell (p := ⟨Bx, 0, none⟩) hBw).trans hc) h0
end Go.Proofs.YtmlfkhpmgjcliaaDoor
