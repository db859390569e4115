/- Texts merged: PPool PLit -/
import Derived.Test.YtepidpegoihllaaGreatDoorPLaw
import Derived.Test.YtepidpegoihllaaGreatDoorPMake
/- Pools: pool.right, pool.Right, step.sumUpTo. -/
namespace Go.Proofs.YtepidpegoihllaaGreatDoor
open Go.RowKit
/-- a Bool that, if true, says P; the world is as it was -/
def QT (P : Prop) (w : World) (e : Ending) (w' : World) : Prop := (∃ b : Bool, (b = true → P) ∧ e = .returned (.bool b)) ∧ w = w'
theorem qt_no {P : Prop} (w : World) : QT P w (.returned (.bool false)) w := ⟨⟨false, (fun h => by cases h), rfl⟩, rfl⟩
theorem qt_yes {P : Prop} {w : World} (h : P) : QT P w (.returned (.bool true)) w := ⟨⟨true, fun _ => h, rfl⟩, rfl⟩
theorem qt_is {P : Prop} {w : World} {b : Bool} (h : b = true → P) : QT P w (.returned (.bool b)) w := ⟨⟨b, h, rfl⟩, rfl⟩
/-- a number and a Bool; the world is as it was -/
def QS (w : World) (e : Ending) (w' : World) : Prop := (∃ (s : Int) (b : Bool), e = .returned (.tuple #[.int .i64 s, .bool b])) ∧ w = w'
theorem qs_mk (s : Int) (b : Bool) {w : World} : QS w (.returned (.tuple #[.int .i64 s, .bool b])) w := ⟨⟨s, b, rfl⟩, rfl⟩
/-- a pool of n owners -/
def PoolR (n : Int) (p : List Int) : Prop := (p.length : Int) = n ∧ (∀ x ∈ p, 0 ≤ x) ∧ p.sum ≤ 1125899906842624
set_option maxRecDepth 100000 in
set_option maxHeartbeats 2000000 in
theorem poolr_any (p : List Int) (v : Value) (w : World) (h : LArg RInt 1 v p w) : Calls Tryz.prog 95 #[v] w (QT ((∀ x ∈ p, 0 ≤ x) ∧ p.sum ≤ 1125899906842624) w) := by
  obtain ⟨al, lc, rfl, hlc, hlm⟩ := h.slice
  have hl : p.length ≤ 9223372036854775807 := by unfold maxLen at hlm; omega
  have HL := Lib.hid h
  clear h hlm
  go_enter Tryz.func95, Tryz.ntmps95
  go_wp2_with fail
  go_loop [3, 8] (fun sv iv => ∃ (k : Nat) (s : Int), k ≤ p.length ∧ iv = .int .i64 k ∧ sv = .int .i64 s ∧ Hid (s = (p.take k).sum ∧ (∀ x ∈ p.take k, 0 ≤ x) ∧ 0 ≤ s ∧ s ≤ 1125899906842624)) (fun _ iv => p.length - (Go.RowKit.intOf iv).toNat)
  case atStart => exact ⟨0, 0, by omega, rfl, rfl, Lib.hid ⟨rfl, fun x hx => by simp at hx, by decide, by decide⟩⟩
  case round =>
    obtain ⟨k, s, hk, rfl, rfl, HI⟩ := hrel
    by_cases hlt : k < p.length
    · obtain ⟨x, hx⟩ : ∃ x, p[k]? = some x := ⟨_, List.getElem?_eq_getElem hlt⟩
      obtain ⟨b, o, cs, hal, hb, h8, hrg, hcs⟩ := HL.out.at hx
      subst hal
      rw [hcs.1] at hrg
      have c0 : w.cell? ⟨b, o + k, none⟩ = some (.int .i64 x) := by
        have h7 := hrg 0 _ rfl
        rw [Nat.mul_one, Nat.add_zero] at h7
        exact h7
      have HX : Hid (I64 x) := Lib.hid hcs.2
      have HT : Hid (p.take (k + 1) = p.take k ++ [x]) := Lib.hid (by rw [List.take_add_one, hx]; rfl)
      clear hrg hcs h8 hb hx
      by_cases h1 : x < 0
      · have q1 : decide (x < 0) = true := decide_eq_true h1
        go_wp2_with fail
        go_ret
        exact qt_no _
      · have q1 : decide (x < 0) = false := decide_eq_false h1
        have W1 : IntKind.i64.wrap (1125899906842624 - s) = 1125899906842624 - s := IntWalk.i64_in _ (by have := HI.out; omega)
        by_cases h2 : 1125899906842624 - s < x
        · have q2 : decide (1125899906842624 - s < x) = true := decide_eq_true h2
          go_wp2_with fail
          go_ret
          exact qt_no _
        · have q2 : decide (1125899906842624 - s < x) = false := decide_eq_false h2
          have W2 : IntKind.i64.wrap (s + x) = s + x := IntWalk.i64_in _ (by have := HI.out; omega)
          have HN : Hid (s + x = (p.take (k + 1)).sum ∧ (∀ y ∈ p.take (k + 1), 0 ≤ y) ∧ 0 ≤ s + x ∧ s + x ≤ 1125899906842624) := Lib.hid (by
            obtain ⟨g1, g2, g3, g4⟩ := HI.out
            refine ⟨by rw [HT.out, List.sum_append, ← g1]; simp, fun y hy => ?_, by omega, by omega⟩
            rw [HT.out] at hy
            rcases List.mem_append.1 hy with hy | hy
            · exact g2 y hy
            · have : y = x := by simpa using hy
              omega)
          go_wp2_with fail
          go_round
          case rel => exact ⟨k + 1, s + x, by omega, by go_num, rfl, HN⟩
          case measure => simp [Go.RowKit.intOf]; omega
    · obtain rfl : k = p.length := by omega
      have HF : Hid ((∀ x ∈ p, 0 ≤ x) ∧ p.sum ≤ 1125899906842624) := Lib.hid (by
        obtain ⟨g1, g2, g3, g4⟩ := HI.out
        rw [List.take_length] at g1 g2
        exact ⟨g2, by omega⟩)
      clear HI
      go_wp2_with fail
      go_ret
      exact qt_yes HF.out
set_option maxRecDepth 100000 in
set_option maxHeartbeats 2000000 in
theorem poolR_any (p : List Int) (v : Value) (n : Int) (w : World) (h : LArg RInt 1 v p w) : Calls Tryz.prog 70 #[v, .int .i64 n] w (QT (PoolR n p) w) := by
  obtain ⟨al, lc, rfl, hlc, hlm⟩ := h.slice
  have hl : p.length ≤ 9223372036854775807 := by unfold maxLen at hlm; omega
  have HL := Lib.hid h
  clear h hlm
  go_enter Tryz.func70, Tryz.ntmps70
  by_cases h1 : 0 ≤ n
  · have q1 : decide (0 ≤ n) = true := decide_eq_true h1
    by_cases h2 : n ≤ 16
    · have q2 : decide (n ≤ 16) = true := decide_eq_true h2
      by_cases h3 : (p.length : Int) = n
      · have q3 : ((p.length : Int) == n) = true := by rw [beq_iff_eq]; exact h3
        have HP : Hid ((p.length : Int) = n) := Lib.hid h3
        clear h1 h2 h3
        go_wp2_with fail
        refine (poolr_any p _ w HL.out).mono ?_
        rintro e w1 ⟨⟨b, hb, rfl⟩, rfl⟩
        have HB := Lib.hid hb
        clear hb
        go_wp2_with fail
        go_ret
        exact qt_is (fun h => ⟨HP.out, HB.out h⟩)
      · have q3 : ((p.length : Int) == n) = false := by rw [beq_eq_false_iff_ne]; exact h3
        clear h1 h2 h3
        go_wp2_with fail
        go_ret
        exact qt_no _
    · have q2 : decide (n ≤ 16) = false := decide_eq_false h2
      clear h1 h2
      go_wp2_with fail
      go_ret
      exact qt_no _
  · have q1 : decide (0 ≤ n) = false := decide_eq_false h1
    clear h1
    go_wp2_with fail
    go_ret
    exact qt_no _
set_option maxRecDepth 100000 in
set_option maxHeartbeats 2000000 in
theorem sumUp_any (p : List Int) (v : Value) (lim : Int) (w : World) (h : LArg RInt 1 v p w) : Calls Tryz.prog 31 #[v, .int .i64 lim] w (QS w) := by
  obtain ⟨al, lc, rfl, hlc, hlm⟩ := h.slice
  have hl : p.length ≤ 9223372036854775807 := by unfold maxLen at hlm; omega
  have HL := Lib.hid h
  clear h hlm
  go_enter Tryz.func31, Tryz.ntmps31
  go_wp2_with fail
  go_loop [6, 11] (fun sv iv => ∃ (k : Nat) (s : Int), k ≤ p.length ∧ iv = .int .i64 k ∧ sv = .int .i64 s) (fun _ iv => p.length - (Go.RowKit.intOf iv).toNat)
  case atStart => exact ⟨0, 0, by omega, rfl, rfl⟩
  case round =>
    obtain ⟨k, s, hk, rfl, rfl⟩ := hrel
    by_cases hlt : k < p.length
    · obtain ⟨x, hx⟩ : ∃ x, p[k]? = some x := ⟨_, List.getElem?_eq_getElem hlt⟩
      obtain ⟨b, o, cs, hal, hb, h8, hrg, hcs⟩ := HL.out.at hx
      subst hal
      rw [hcs.1] at hrg
      have c0 : w.cell? ⟨b, o + k, none⟩ = some (.int .i64 x) := by
        have h7 := hrg 0 _ rfl
        rw [Nat.mul_one, Nat.add_zero] at h7
        exact h7
      have HX : Hid (I64 x) := Lib.hid hcs.2
      have HT : Hid (p.take (k + 1) = p.take k ++ [x]) := Lib.hid (by rw [List.take_add_one, hx]; rfl)
      clear hrg hcs h8 hb hx
      obtain ⟨d, hd⟩ : ∃ d, d = IntKind.i64.wrap (lim - s) := ⟨_, rfl⟩
      obtain ⟨t, ht⟩ : ∃ t, t = IntKind.i64.wrap (s + x) := ⟨_, rfl⟩
      have W1 := hd.symm
      have W2 := ht.symm
      clear hd ht
      by_cases h1 : x < 0
      · have q1 : decide (x < 0) = true := decide_eq_true h1
        go_wp2_with fail
        go_ret2
        exact qs_mk _ _
      · have q1 : decide (x < 0) = false := decide_eq_false h1
        by_cases h2 : d < x
        · have q2 : decide (d < x) = true := decide_eq_true h2
          go_wp2_with fail
          go_ret2
          exact qs_mk _ _
        · have q2 : decide (d < x) = false := decide_eq_false h2
          go_wp2_with fail
          go_round
          case rel => exact ⟨k + 1, t, by omega, by go_num, rfl⟩
          case measure => simp [Go.RowKit.intOf]; omega
    · obtain rfl : k = p.length := by omega
      go_wp2_with fail
      go_ret2
      exact qs_mk _ _
end Go.Proofs.YtepidpegoihllaaGreatDoor
/- step.litres: if it answers true, all water of a state is right. -/
namespace Go.Proofs.YtepidpegoihllaaGreatDoor
open Go.RowKit
/-- all water of a state is right, and together at most MaxVol -/
def LitOk (n m : Int) (s : StateV) : Prop := (∀ p ∈ s.own, PoolR n p) ∧ (∀ l ∈ s.queue, (0 ≤ l.to_ ∧ l.to_ < m) ∧ PoolR n l.part) ∧ (s.own.map List.sum).sum + (s.queue.map fun l => l.part.sum).sum ≤ 1125899906842624
/-- a number and a Bool that, if true, says P -/
def QL (P : Prop) (w : World) (e : Ending) (w' : World) : Prop := (∃ (n : Int) (b : Bool), (b = true → P) ∧ e = .returned (.tuple #[.int .i64 n, .bool b])) ∧ Below w.heap.size w w'
theorem ql_no {P : Prop} {w w' : World} (n : Int) (hb : Below w.heap.size w w') : QL P w (.returned (.tuple #[.int .i64 n, .bool false])) w' := ⟨⟨n, false, (fun h => by cases h), rfl⟩, hb⟩
theorem ql_yes {P : Prop} {w w' : World} (n : Int) (h : P) (hb : Below w.heap.size w w') : QL P w (.returned (.tuple #[.int .i64 n, .bool true])) w' := ⟨⟨n, true, fun _ => h, rfl⟩, hb⟩
theorem poolR_tot {n : Int} {p : List Int} (h : PoolR n p) : totS p = p.sum ∧ 0 ≤ p.sum ∧ p.sum ≤ 1125899906842624 := ⟨totS_is h.2.1 h.2.2, sum_nonneg h.2.1, h.2.2⟩
/-- the first k pools are right, s litres together -/
def OwnI (n : Int) (own : List (List Int)) (k : Nat) (s : Int) : Prop := s = ((own.take k).map List.sum).sum ∧ (∀ p ∈ own.take k, PoolR n p) ∧ 0 ≤ s ∧ s ≤ 1125899906842624
theorem OwnI.next {n s : Int} {own : List (List Int)} {k : Nat} {p : List Int} (h : OwnI n own k s) (hp : own[k]? = some p) (hr : PoolR n p) (hm : s + p.sum ≤ 1125899906842624) : OwnI n own (k + 1) (s + p.sum) := by
  have e : own.take (k + 1) = own.take k ++ [p] := by rw [List.take_add_one, hp]; rfl
  have h2 := (poolR_tot hr).2.1
  refine ⟨?_, fun r hr' => ?_, by have := h.2.2.1; omega, hm⟩
  · rw [e, List.map_append, List.sum_append, ← h.1]; simp
  · rw [e] at hr'
    rcases List.mem_append.1 hr' with h3 | h3
    · exact h.2.1 r h3
    · have : r = p := by simpa using h3
      rw [this]; exact hr
def QueI (n m : Int) (a : Int) (q : List LoadV) (k : Nat) (s : Int) : Prop := s = a + ((q.take k).map fun l => l.part.sum).sum ∧ (∀ l ∈ q.take k, (0 ≤ l.to_ ∧ l.to_ < m) ∧ PoolR n l.part) ∧ 0 ≤ s ∧ s ≤ 1125899906842624
theorem QueI.next {n m a s : Int} {q : List LoadV} {k : Nat} {l : LoadV} (h : QueI n m a q k s) (hl : q[k]? = some l) (ht : 0 ≤ l.to_ ∧ l.to_ < m) (hr : PoolR n l.part) (hm : s + l.part.sum ≤ 1125899906842624) : QueI n m a q (k + 1) (s + l.part.sum) := by
  have e : q.take (k + 1) = q.take k ++ [l] := by rw [List.take_add_one, hl]; rfl
  have h2 := (poolR_tot hr).2.1
  refine ⟨?_, fun r hr' => ?_, by have := h.2.2.1; omega, hm⟩
  · rw [e, List.map_append, List.sum_append, ← Int.add_assoc, ← h.1]; simp
  · rw [e] at hr'
    rcases List.mem_append.1 hr' with h3 | h3
    · exact h.2.1 r h3
    · have : r = l := by simpa using h3
      rw [this]; exact ⟨ht, hr⟩
set_option maxRecDepth 100000 in
set_option maxHeartbeats 4000000 in
theorem indexS_any (i n : Int) (w : World) : Calls Tryz.prog 71 #[.int .i64 i, .int .i64 n] w fun e w' => e = .returned (.bool (decide (0 ≤ i ∧ i < n))) ∧ w = w' := by
  obtain ⟨v, hv⟩ : ∃ v, v = decide (0 ≤ i ∧ i < n) := ⟨_, rfl⟩
  rw [← hv]
  have HV0 := Lib.hid hv
  clear hv
  by_cases h1 : 0 ≤ i
  · have q1 : decide (0 ≤ i) = true := decide_eq_true h1
    by_cases h2 : i < n
    · have q2 : decide (i < n) = true := decide_eq_true h2
      have HV : Hid (v = true) := Lib.hid (by rw [HV0.out]; exact decide_eq_true ⟨h1, h2⟩)
      clear h1 h2 HV0
      go_enter Tryz.func71, Tryz.ntmps71
      go_wp2_with fail
      go_ret
      exact ⟨by rw [HV.out]; rfl, rfl⟩
    · have q2 : decide (i < n) = false := decide_eq_false h2
      have HV : Hid (v = false) := Lib.hid (by rw [HV0.out]; exact decide_eq_false (fun h => h2 h.2))
      clear h1 h2 HV0
      go_enter Tryz.func71, Tryz.ntmps71
      go_wp2_with fail
      go_ret
      exact ⟨by rw [HV.out]; rfl, rfl⟩
  · have q1 : decide (0 ≤ i) = false := decide_eq_false h1
    have HV : Hid (v = false) := Lib.hid (by rw [HV0.out]; exact decide_eq_false (fun h => h1 h.1))
    clear h1 HV0
    go_enter Tryz.func71, Tryz.ntmps71
    go_wp2_with fail
    go_ret
    exact ⟨by rw [HV.out]; rfl, rfl⟩
set_option maxRecDepth 100000 in
set_option maxHeartbeats 8000000 in
theorem litres_any (b : BasinV) (p0 p1 p2 p3 p4 p5 p6 p7 : Option Addr) (q0 q1 q2 q3 q4 q5 q6 q7 : Nat) (s : StateV) (po pr pq pg pi pu : Option Addr) (qo qr qq qg qi qu : Nat) (w : World) (hT : StateS s po pq qo qq w) (_hpl : b.places.length ≤ 1000) (hol : s.own.length ≤ 1000) (_hbo : b.owners.length ≤ 1000) :
    Calls Tryz.prog 30 #[.agg #[.string b.name, .slice p0 b.owners.length q0, .int .i64 b.cells, .slice p1 b.places.length q1, .slice p2 b.links.length q2, .slice p3 b.towns.length q3, .slice p4 b.gauges.length q4, .slice p5 b.roads.length q5, .slice p6 b.shelters.length q6, .slice p7 b.room.length q7, .int .i64 b.err], .agg #[.int .i64 s.hour, .slice po s.own.length qo, .slice pr s.rem.length qr, .slice pq s.queue.length qq, .slice pg s.gates.length qg, .slice pi s.inn.length qi, .slice pu s.out.length qu]] w (QL (LitOk b.owners.length b.places.length s) w) := by
  have HT := Lib.hid hT
  obtain ⟨aqq, nqq, hqq, hql0, hqm⟩ := hT.lq.slice
  simp only [Value.slice.injEq] at hqq
  obtain ⟨rfl, -, rfl⟩ := hqq
  have hql : s.queue.length ≤ 9223372036854775807 := by unfold maxLen at hqm; omega
  have s1 : (w.alloc (.cells #[.string b.name, .slice p0 b.owners.length q0, .int .i64 b.cells, .slice p1 b.places.length q1, .slice p2 b.links.length q2, .slice p3 b.towns.length q3, .slice p4 b.gauges.length q4, .slice p5 b.roads.length q5, .slice p6 b.shelters.length q6, .slice p7 b.room.length q7, .int .i64 b.err] 31)).heap.size = w.heap.size + 1 := by simp
  have HR : Hid (RowsS w [(w.heap.size, .cells #[.string b.name, .slice p0 b.owners.length q0, .int .i64 b.cells, .slice p1 b.places.length q1, .slice p2 b.links.length q2, .slice p3 b.towns.length q3, .slice p4 b.gauges.length q4, .slice p5 b.roads.length q5, .slice p6 b.shelters.length q6, .slice p7 b.room.length q7, .int .i64 b.err] 31), ((w.heap.size + 1), .cells #[.int .i64 s.hour, .slice po s.own.length qo, .slice pr s.rem.length qr, .slice pq s.queue.length qq, .slice pg s.gates.length qg, .slice pi s.inn.length qi, .slice pu s.out.length qu] 36)] ((w.alloc (.cells #[.string b.name, .slice p0 b.owners.length q0, .int .i64 b.cells, .slice p1 b.places.length q1, .slice p2 b.links.length q2, .slice p3 b.towns.length q3, .slice p4 b.gauges.length q4, .slice p5 b.roads.length q5, .slice p6 b.shelters.length q6, .slice p7 b.room.length q7, .int .i64 b.err] 31)).alloc (.cells #[.int .i64 s.hour, .slice po s.own.length qo, .slice pr s.rem.length qr, .slice pq s.queue.length qq, .slice pg s.gates.length qg, .slice pi s.inn.length qi, .slice pu s.out.length qu] 36))) := Lib.hid (by
    have := ((RowsS.nil w).alloc (.cells #[.string b.name, .slice p0 b.owners.length q0, .int .i64 b.cells, .slice p1 b.places.length q1, .slice p2 b.links.length q2, .slice p3 b.towns.length q3, .slice p4 b.gauges.length q4, .slice p5 b.roads.length q5, .slice p6 b.shelters.length q6, .slice p7 b.room.length q7, .int .i64 b.err] 31)).alloc (.cells #[.int .i64 s.hour, .slice po s.own.length qo, .slice pr s.rem.length qr, .slice pq s.queue.length qq, .slice pg s.gates.length qg, .slice pi s.inn.length qi, .slice pu s.out.length qu] 36)
    rw [s1] at this
    exact this)
  clear hT s1 hqm
  go_enter Tryz.func30, Tryz.ntmps30
  go_upto_region 1 with fail
  generalize ((w.alloc (.cells #[.string b.name, .slice p0 b.owners.length q0, .int .i64 b.cells, .slice p1 b.places.length q1, .slice p2 b.links.length q2, .slice p3 b.towns.length q3, .slice p4 b.gauges.length q4, .slice p5 b.roads.length q5, .slice p6 b.shelters.length q6, .slice p7 b.room.length q7, .int .i64 b.err] 31)).alloc (.cells #[.int .i64 s.hour, .slice po s.own.length qo, .slice pr s.rem.length qr, .slice pq s.queue.length qq, .slice pg s.gates.length qg, .slice pi s.inn.length qi, .slice pu s.out.length qu] 36)) = w0 at *
  have z1 := HR.out.cell 1 1 rfl rfl
  go_upto_region 3 with fail
  clear z1
  go_loopw [6, 15] (fun sv iv wx => ∃ (k : Nat) (t : Int), k ≤ s.own.length ∧ iv = .int .i64 k ∧ sv = .int .i64 t ∧ Hid (OwnI b.owners.length s.own k t) ∧ RowsS w [(w.heap.size, .cells #[.string b.name, .slice p0 b.owners.length q0, .int .i64 b.cells, .slice p1 b.places.length q1, .slice p2 b.links.length q2, .slice p3 b.towns.length q3, .slice p4 b.gauges.length q4, .slice p5 b.roads.length q5, .slice p6 b.shelters.length q6, .slice p7 b.room.length q7, .int .i64 b.err] 31), ((w.heap.size + 1), .cells #[.int .i64 s.hour, .slice po s.own.length qo, .slice pr s.rem.length qr, .slice pq s.queue.length qq, .slice pg s.gates.length qg, .slice pi s.inn.length qi, .slice pu s.out.length qu] 36)] wx) (fun _ iv _ => s.own.length - (Go.RowKit.intOf iv).toNat)
  case atStart => exact ⟨0, 0, Nat.zero_le _, rfl, rfl, Lib.hid ⟨rfl, fun p hp => by simp at hp, by decide, by decide⟩, HR.out⟩
  case round =>
    obtain ⟨k, t, hk, rfl, rfl, HI, hr⟩ := hrel
    have HR1 := Lib.hid hr
    clear hr HR
    by_cases hlt : k < s.own.length
    · have hlti : (k : Int) < (s.own.length : Int) := by omega
      obtain ⟨p, hp⟩ : ∃ p, s.own[k]? = some p := ⟨_, List.getElem?_eq_getElem hlt⟩
      obtain ⟨bo, oo, cs, rfl, hbo', -, hro, vp, rfl, hpart⟩ := HT.out.lo.at hp
      obtain ⟨ap, cp, rfl, -, -⟩ := hpart.slice
      have HPt := Lib.hid (hpart.below stays_int HR1.out.below)
      have HP := Lib.hid hp
      have cW : wr.cell? ⟨bo, oo + k, none⟩ = some (.slice ap p.length cp) := by
        have := (rangeAt_below hro HR1.out.below hbo') 0 _ rfl
        rw [Nat.mul_one, Nat.add_zero] at this
        exact this
      have b1 := HR1.out.cell 0 1 rfl rfl
      clear hpart hro hp
      go_wp2_with fail
      refine (poolR_any p _ _ _ HPt.out).mono ?_
      rintro e w3 ⟨⟨bb, hbb, rfl⟩, rfl⟩
      cases bb with
      | false =>
        clear hbb
        go_wp2_with fail
        go_ret2
        exact ql_no 0 HR1.out.below
      | true =>
        have HPr := Lib.hid (hbb rfl)
        have HTo := Lib.hid (poolR_tot HPr.out)
        clear hbb
        go_wp2_with fail
        refine (total_any p _ _ HPt.out).mono ?_
        rintro e w4 ⟨rfl, rfl⟩
        rw [HTo.out.1]
        obtain ⟨x, hx⟩ : ∃ x, x = p.sum := ⟨_, rfl⟩
        have HX := Lib.hid hx
        rw [← hx]
        have hx0 : 0 ≤ x ∧ x ≤ 1125899906842624 := by rw [hx]; exact HTo.out.2
        have ht0 : 0 ≤ t ∧ t ≤ 1125899906842624 := HI.out.2.2
        have W1 : IntKind.i64.wrap (t + x) = t + x := IntWalk.i64_in _ (by omega)
        clear hx
        by_cases h2 : 1125899906842624 < t + x
        · have q2 : decide (1125899906842624 < t + x) = true := decide_eq_true h2
          go_wp2_with fail
          go_ret2
          exact ql_no 0 HR1.out.below
        · have q2 : decide (1125899906842624 < t + x) = false := decide_eq_false h2
          have HN : Hid (OwnI b.owners.length s.own (k + 1) (t + x)) := Lib.hid (by rw [HX.out]; exact HI.out.next HP.out HPr.out (by rw [← HX.out]; omega))
          go_wp2_with fail
          go_roundw
          case rel => exact ⟨k + 1, t + x, by omega, by go_num, rfl, HN, HR1.out⟩
          case measure => simp [Go.RowKit.intOf]; omega
    · obtain rfl : k = s.own.length := by omega
      have HOw : Hid (t = (s.own.map List.sum).sum ∧ (∀ p ∈ s.own, PoolR b.owners.length p) ∧ 0 ≤ t ∧ t ≤ 1125899906842624) := Lib.hid (by have := HI.out; unfold OwnI at this; rw [List.take_length] at this; exact this)
      obtain ⟨t0, ht0⟩ : ∃ t0, t0 = t := ⟨_, rfl⟩
      have HT0 := Lib.hid ht0
      have z3 := HR1.out.cell 1 3 rfl rfl
      clear HI hlt hk ht0
      go_upto_region 12 with fail
      clear z3
      rename World => wz
      go_loopw [6, 35] (fun sv iv wx => ∃ (k : Nat) (u : Int), k ≤ s.queue.length ∧ iv = .int .i64 k ∧ sv = .int .i64 u ∧ Hid (QueI b.owners.length b.places.length t0 s.queue k u) ∧ RowsS w [(w.heap.size, .cells #[.string b.name, .slice p0 b.owners.length q0, .int .i64 b.cells, .slice p1 b.places.length q1, .slice p2 b.links.length q2, .slice p3 b.towns.length q3, .slice p4 b.gauges.length q4, .slice p5 b.roads.length q5, .slice p6 b.shelters.length q6, .slice p7 b.room.length q7, .int .i64 b.err] 31), ((w.heap.size + 1), .cells #[.int .i64 s.hour, .slice po s.own.length qo, .slice pr s.rem.length qr, .slice pq s.queue.length qq, .slice pg s.gates.length qg, .slice pi s.inn.length qi, .slice pu s.out.length qu] 36)] wx) (fun _ iv _ => s.queue.length - (Go.RowKit.intOf iv).toNat)
      case atStart => exact ⟨0, t, Nat.zero_le _, rfl, rfl, Lib.hid ⟨by rw [HT0.out]; simp, fun p hp => by simp at hp, HOw.out.2.2.1, HOw.out.2.2.2⟩, HR1.out⟩
      case round =>
        clear HR1
        obtain ⟨k, u, hk, rfl, rfl, HI, hr⟩ := hrel
        have HR1 := Lib.hid hr
        clear hr
        by_cases hlt : k < s.queue.length
        · have hlti : (k : Int) < (s.queue.length : Int) := by omega
          obtain ⟨l, hl⟩ : ∃ l, s.queue[k]? = some l := ⟨_, List.getElem?_eq_getElem hlt⟩
          obtain ⟨bq, oq, cs, rfl, hbl, -, hrg, v0, rfl, -, -, hpart⟩ := HT.out.lq.at hl
          obtain ⟨ap, cp, rfl, -, -⟩ := hpart.slice
          have HL := Lib.hid hl
          have HG1 : Hid (wr.rangeAt bq (oq + k * 3) [.int .i64 l.at_, .int .i64 l.to_, .slice ap l.part.length cp]) := Lib.hid (rangeAt_below hrg HR1.out.below hbl)
          have HR2 := Lib.hid (HR1.out.alloc (.cells #[.int .i64 l.at_, .int .i64 l.to_, .slice ap l.part.length cp] 83))
          have HPt := Lib.hid (hpart.below stays_int HR2.out.below)
          clear hpart hrg hl
          go_upto_region 14 with (refine wpList_load_range (by first | (go_simp; done) | rfl) 83 _ rfl _ _ rfl _ _ HG1.out undLd rfl infoLd ?_)
          clear HG1
          generalize wr.alloc (.cells #[.int .i64 l.at_, .int .i64 l.to_, .slice ap l.part.length cp] 83) = w2 at *
          generalize wr.heap.size = bL at *
          have HRX := Lib.hid (HR2.out.take 2)
          have l0 := HR2.out.cell 2 0 rfl rfl
          have l1 := HR2.out.cell 2 1 rfl rfl
          have l2 := HR2.out.cell 2 2 rfl rfl
          have z0 := HR2.out.cell 1 0 rfl rfl
          have b1 := HR2.out.cell 0 1 rfl rfl
          have b3 := HR2.out.cell 0 3 rfl rfl
          by_cases h1 : l.at_ < s.hour
          · have q1 : decide (l.at_ < s.hour) = true := decide_eq_true h1
            go_wp2_with fail
            go_ret2
            exact ql_no 0 HR2.out.below
          · have q1 : decide (l.at_ < s.hour) = false := decide_eq_false h1
            by_cases h2 : 0 ≤ l.to_ ∧ l.to_ < (b.places.length : Int)
            · have HIx : Hid (decide (0 ≤ l.to_ ∧ l.to_ < (b.places.length : Int)) = true) := Lib.hid (decide_eq_true h2)
              have H2 := Lib.hid h2
              clear h1 h2
              go_wp2_with fail
              refine (indexS_any l.to_ _ _).mono ?_
              rintro e w3 ⟨rfl, rfl⟩
              rw [HIx.out]
              go_wp2_with fail
              refine (poolR_any l.part _ _ _ HPt.out).mono ?_
              rintro e w3 ⟨⟨bb, hbb, rfl⟩, rfl⟩
              cases bb with
              | false =>
                clear hbb
                go_wp2_with fail
                go_ret2
                exact ql_no 0 HR2.out.below
              | true =>
                have HPr := Lib.hid (hbb rfl)
                have HTo := Lib.hid (poolR_tot HPr.out)
                clear hbb
                go_wp2_with fail
                refine (total_any l.part _ _ HPt.out).mono ?_
                rintro e w4 ⟨rfl, rfl⟩
                rw [HTo.out.1]
                obtain ⟨x, hx⟩ : ∃ x, x = l.part.sum := ⟨_, rfl⟩
                have HX := Lib.hid hx
                rw [← hx]
                have hx0 : 0 ≤ x ∧ x ≤ 1125899906842624 := by rw [hx]; exact HTo.out.2
                have ht0 : 0 ≤ u ∧ u ≤ 1125899906842624 := HI.out.2.2
                have W1 : IntKind.i64.wrap (u + x) = u + x := IntWalk.i64_in _ (by omega)
                clear hx
                by_cases h3 : x ≤ 0
                · have q3 : decide (x ≤ 0) = true := decide_eq_true h3
                  go_wp2_with fail
                  go_ret2
                  exact ql_no 0 HR2.out.below
                · have q3 : decide (x ≤ 0) = false := decide_eq_false h3
                  by_cases h4 : 1125899906842624 < u + x
                  · have q4 : decide (1125899906842624 < u + x) = true := decide_eq_true h4
                    go_wp2_with fail
                    go_ret2
                    exact ql_no 0 HR2.out.below
                  · have q4 : decide (1125899906842624 < u + x) = false := decide_eq_false h4
                    have HN : Hid (QueI b.owners.length b.places.length t0 s.queue (k + 1) (u + x)) := Lib.hid (by rw [HX.out]; exact HI.out.next HL.out H2.out HPr.out (by rw [← HX.out]; omega))
                    go_wp2_with fail
                    go_roundw
                    case rel => exact ⟨k + 1, u + x, by omega, by go_num, rfl, HN, HRX.out⟩
                    case measure => simp [Go.RowKit.intOf]; omega
            · have HIx : Hid (decide (0 ≤ l.to_ ∧ l.to_ < (b.places.length : Int)) = false) := Lib.hid (decide_eq_false h2)
              clear h1 h2
              go_wp2_with fail
              refine (indexS_any l.to_ _ _).mono ?_
              rintro e w3 ⟨rfl, rfl⟩
              rw [HIx.out]
              go_wp2_with fail
              go_ret2
              exact ql_no 0 HR2.out.below
        · obtain rfl : k = s.queue.length := by omega
          have HF : Hid (LitOk b.owners.length b.places.length s) := Lib.hid (by
            have h := HI.out
            unfold QueI at h
            rw [List.take_length] at h
            exact ⟨HOw.out.2.1, h.2.1, by have h1 := HOw.out.1; have h2 := HT0.out; have h3 := h.1; have h4 := h.2.2.2; omega⟩)
          clear HI hlt hk
          go_wp2_with fail
          go_ret2
          exact ql_yes _ HF.out HR1.out.below
end Go.Proofs.YtepidpegoihllaaGreatDoor
