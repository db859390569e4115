/- bournelaw46: has, few, plain. -/
import Derived.Test.YtjbjpkhibcnenaaGreatDoorALawA
namespace Go.Proofs.YtjbjpkhibcnenaaGreatDoor
open Go.RowKit
open Classical in
noncomputable def fewB46 (pubs : List PublicV) (l : List CV) (vows : List PV) : Bool := decide ((∀ p ∈ pubs, p.net.length ≤ 10) ∧ (∀ c ∈ l, c.prev.size ≤ 100) ∧ l.length ≤ 10 ∧ pubs.length ≤ 10 ∧ vows.length ≤ 4)
open Classical in
theorem few46_no {pubs : List PublicV} {l : List CV} {vows : List PV} (h : ¬ ((∀ p ∈ pubs, p.net.length ≤ 10) ∧ (∀ c ∈ l, c.prev.size ≤ 100) ∧ l.length ≤ 10 ∧ pubs.length ≤ 10 ∧ vows.length ≤ 4)) : fewB46 pubs l vows = false := by
  unfold fewB46
  exact decide_eq_false h
open Classical in
theorem few46_iff {pubs : List PublicV} {l : List CV} {vows : List PV} : fewB46 pubs l vows = true ↔ ((∀ p ∈ pubs, p.net.length ≤ 10) ∧ (∀ c ∈ l, c.prev.size ≤ 100) ∧ l.length ≤ 10 ∧ pubs.length ≤ 10 ∧ vows.length ≤ 4) := by
  unfold fewB46
  exact decide_eq_true_iff
open Classical in
noncomputable def plainB (room : List Int) (err : Int) : Bool := decide (room.length = 3 ∧ (0 ≤ err ∧ err ≤ 1099511627776) ∧ ∀ r ∈ room, 0 ≤ r ∧ r ≤ 1125899906842624)
open Classical in
theorem plain_no {room : List Int} {err : Int} (h : ¬ (room.length = 3 ∧ (0 ≤ err ∧ err ≤ 1099511627776) ∧ ∀ r ∈ room, 0 ≤ r ∧ r ≤ 1125899906842624)) : plainB room err = false := by
  unfold plainB
  exact decide_eq_false h
open Classical in
theorem plain_iff {room : List Int} {err : Int} : plainB room err = true ↔ (room.length = 3 ∧ (0 ≤ err ∧ err ≤ 1099511627776) ∧ ∀ r ∈ room, 0 ≤ r ∧ r ≤ 1125899906842624) := by
  unfold plainB
  exact decide_eq_true_iff
theorem upto_snoc {α : Type} {P : α → Prop} {l : List α} {k : Nat} {x : α} (h : ∀ (i : Nat) (y : α), i < k → l[i]? = some y → P y) (hx : l[k]? = some x) (hp : P x) : ∀ (i : Nat) (y : α), i < k + 1 → l[i]? = some y → P y := fun i y hi hy => by
  by_cases e : i = k
  · subst e; rw [hx] at hy; cases hy; exact hp
  · exact h i y (by omega) hy
theorem upto_mem {α : Type} {P : α → Prop} {l : List α} (h : ∀ (i : Nat) (y : α), i < l.length → l[i]? = some y → P y) : ∀ y ∈ l, P y := fun y hy => by
  obtain ⟨i, hi⟩ := List.getElem?_of_mem hy
  exact h i y (List.getElem?_eq_some_iff.1 hi).1 hi
set_option maxRecDepth 100000 in
set_option maxHeartbeats 4000000 in
theorem has_any (l : List BlV) (v : Value) (ow ww : Int) (w : World) (hL : LArg RBl 9 v l w) (hl : l.length ≤ 1000) : Calls Tryz.prog 13 #[v, .int .i64 ow, .int .i64 ww] w (RetB (hasB l ow ww) w) := by
  obtain ⟨al, lc, rfl, hlc, hlm⟩ := hL.slice
  have HL := Lib.hid hL
  clear hL hlc hlm
  go_enter Tryz.func13, Tryz.ntmps13
  go_wp2_with fail
  go_loopw [7] (fun iv wx => ∃ k : Nat, k ≤ l.length ∧ iv = .int .i64 k ∧ (∀ (i : Nat) (x : BlV), i < k → l[i]? = some x → ¬ (x.office = ow ∧ x.why = ww)) ∧ w = wx) (fun iv _ => l.length - (Go.RowKit.intOf iv).toNat)
  case atStart => exact ⟨0, Nat.zero_le _, rfl, fun i x h => absurd h (Nat.not_lt_zero _), rfl⟩
  case round =>
    obtain ⟨k, hk, rfl, hno, rfl⟩ := hrel
    have HNO := Lib.hid hno
    clear hno
    by_cases hlt : k < l.length
    · obtain ⟨x, hx⟩ : ∃ x, l[k]? = some x := ⟨_, List.getElem?_eq_getElem hlt⟩
      obtain ⟨b, o, cs, rfl, hbl, -, hrg, u, rfl, -, -⟩ := HL.out.at hx
      have HX := Lib.hid hx
      have hlt' : (k : Int) < (l.length : Int) := by omega
      have c0 : w.cell? ⟨b, o + k * 9, none⟩ = some (.int .i64 x.office) := hrg 0 _ rfl
      have c1 : w.cell? ⟨b, o + k * 9 + 1, none⟩ = some (.int .i64 x.why) := hrg 1 _ rfl
      clear hx hrg
      by_cases h1 : x.office = ow
      · have q1 : (x.office == ow) = true := by rw [beq_iff_eq]; exact h1
        have q2 : decide (x.office = ow) = true := decide_eq_true h1
        by_cases h2 : x.why = ww
        · have q3 : (x.why == ww) = true := by rw [beq_iff_eq]; exact h2
          have q4 : decide (x.why = ww) = true := decide_eq_true h2
          have HE : Hid (hasB l ow ww = true) := Lib.hid (hasB_iff.2 ⟨x, List.mem_of_getElem? HX.out, h1, h2⟩)
          clear h1 h2
          go_wp2_with fail
          go_ret
          exact retB_mk HE.out (Below.refl _ _)
        · have q3 : (x.why == ww) = false := by rw [beq_eq_false_iff_ne]; exact h2
          have q4 : decide (x.why = ww) = false := decide_eq_false h2
          have HN := Lib.hid (upto_snoc HNO.out HX.out (fun h => h2 h.2))
          clear h1 h2
          go_wp2_with fail
          go_roundw
          case rel => exact ⟨k + 1, by omega, by go_num, HN.out, trivial⟩
          case measure => simp [Go.RowKit.intOf]; omega
      · have q1 : (x.office == ow) = false := by rw [beq_eq_false_iff_ne]; exact h1
        have q2 : decide (x.office = ow) = false := decide_eq_false h1
        have HN := Lib.hid (upto_snoc HNO.out HX.out (fun h => h1 h.1))
        clear h1
        go_wp2_with fail
        go_roundw
        case rel => exact ⟨k + 1, by omega, by go_num, HN.out, trivial⟩
        case measure => simp [Go.RowKit.intOf]; omega
    · obtain rfl : k = l.length := by omega
      have HE : Hid (hasB l ow ww = false) := Lib.hid (by
        rw [Bool.eq_false_iff]
        intro h
        obtain ⟨y, hy, h2⟩ := hasB_iff.1 h
        exact upto_mem HNO.out y hy h2)
      clear hlt hk
      go_wp2_with fail
      go_ret
      exact retB_mk HE.out (Below.refl _ _)
set_option maxRecDepth 100000 in
set_option maxHeartbeats 4000000 in
theorem few46_any (pubs : List PublicV) (l : List CV) (vows : List PV) (aq ac av : Option Addr) (nq nc nv : Nat) (w : World) (hQ : LArg RPublic 4 (.slice aq pubs.length nq) pubs w) (hC : LArg RC 8 (.slice ac l.length nc) l w) (hV : LArg RP 6 (.slice av vows.length nv) vows w) : Calls Tryz.prog 8 #[.slice aq pubs.length nq, .slice ac l.length nc, .slice av vows.length nv] w (RetB (fewB46 pubs l vows) w) := by
  obtain ⟨_, _, hq1, hq2, hq3⟩ := hQ.slice
  obtain ⟨_, _, hc1, hc2, hc3⟩ := hC.slice
  obtain ⟨_, _, hv1, hv2, hv3⟩ := hV.slice
  simp only [Value.slice.injEq] at hq1 hc1 hv1
  obtain ⟨-, -, rfl⟩ := hq1
  obtain ⟨-, -, rfl⟩ := hc1
  obtain ⟨-, -, rfl⟩ := hv1
  unfold maxLen at hq3 hc3 hv3
  have HQ := Lib.hid hQ
  have HC := Lib.hid hC
  have hql : pubs.length ≤ 9223372036854775807 := by omega
  have hcl : l.length ≤ 9223372036854775807 := by omega
  have hvl : vows.length ≤ 9223372036854775807 := by omega
  clear hQ hC hV hq2 hq3 hc2 hc3 hv2 hv3
  go_enter Tryz.func8, Tryz.ntmps8
  go_wp2_with fail
  go_loopw [7] (fun iv wx => ∃ k : Nat, k ≤ pubs.length ∧ iv = .int .i64 k ∧ (∀ (i : Nat) (x : PublicV), i < k → pubs[i]? = some x → x.net.length ≤ 10) ∧ w = wx) (fun iv _ => pubs.length - (Go.RowKit.intOf iv).toNat)
  case atStart => exact ⟨0, Nat.zero_le _, rfl, fun i x h => absurd h (Nat.not_lt_zero _), rfl⟩
  case round =>
    obtain ⟨k, hk, rfl, hno, rfl⟩ := hrel
    have HNO := Lib.hid hno
    clear hno
    by_cases hlt : k < pubs.length
    · obtain ⟨x, hx⟩ : ∃ x, pubs[k]? = some x := ⟨_, List.getElem?_eq_getElem hlt⟩
      obtain ⟨b, o, cs, rfl, hbl, -, hrg, u, rfl, -, -, -, hn⟩ := HQ.out.at hx
      obtain ⟨an, cn, rfl, hn1, hn2⟩ := hn.slice
      unfold maxLen at hn2
      have hnl : x.net.length ≤ 9223372036854775807 := by omega
      have HX := Lib.hid hx
      have hlt' : (k : Int) < (pubs.length : Int) := by omega
      have c1 : w.cell? ⟨b, o + k * 4 + 1, none⟩ = some (.slice an x.net.length cn) := hrg 1 _ rfl
      clear hx hrg hn hn1 hn2
      by_cases h1 : x.net.length ≤ 10
      · have q1 : ¬ (10 : Int) < (x.net.length : Int) := by omega
        have q2 : ¬ 10 < x.net.length := by omega
        have HN := Lib.hid (upto_snoc HNO.out HX.out h1)
        clear h1
        go_wp2_with fail
        go_roundw
        case rel => exact ⟨k + 1, by omega, by go_num, HN.out, trivial⟩
        case measure => simp [Go.RowKit.intOf]; omega
      · have q1 : (10 : Int) < (x.net.length : Int) := by omega
        have q2 : 10 < x.net.length := by omega
        have HE := Lib.hid (few46_no (pubs := pubs) (l := l) (vows := vows) (fun h => h1 (h.1 x (List.mem_of_getElem? HX.out))))
        clear h1
        go_wp2_with fail
        go_ret
        exact retB_mk HE.out (Below.refl _ _)
    · obtain rfl : k = pubs.length := by omega
      have HP := Lib.hid (upto_mem HNO.out)
      clear hlt hk HNO
      go_wp2_with fail
      go_loopw [8] (fun iv wx => ∃ k : Nat, k ≤ l.length ∧ iv = .int .i64 k ∧ (∀ (i : Nat) (x : CV), i < k → l[i]? = some x → x.prev.size ≤ 100) ∧ w = wx) (fun iv _ => l.length - (Go.RowKit.intOf iv).toNat)
      case atStart => exact ⟨0, Nat.zero_le _, rfl, fun i x h => absurd h (Nat.not_lt_zero _), rfl⟩
      case round =>
        obtain ⟨k, hk, rfl, hno, rfl⟩ := hrel
        have HNO := Lib.hid hno
        clear hno
        by_cases hlt : k < l.length
        · obtain ⟨x, hx⟩ : ∃ x, l[k]? = some x := ⟨_, List.getElem?_eq_getElem hlt⟩
          obtain ⟨b, o, cs, rfl, hbl, -, hrg, hcs, -, hps⟩ := HC.out.at hx
          unfold cellsC at hcs
          subst hcs
          unfold maxLen at hps
          have HX := Lib.hid hx
          have hlt' : (k : Int) < (l.length : Int) := by omega
          have c5 : w.cell? ⟨b, o + k * 8 + 5, none⟩ = some (.string x.prev) := hrg 5 _ rfl
          clear hx hrg
          by_cases h1 : x.prev.size ≤ 100
          · have q1 : ¬ (100 : Int) < (x.prev.size : Int) := by omega
            have q2 : ¬ 100 < x.prev.size := by omega
            have HN := Lib.hid (upto_snoc HNO.out HX.out h1)
            clear h1
            go_wp2_with fail
            go_roundw
            case rel => exact ⟨k + 1, by omega, by go_num, HN.out, trivial⟩
            case measure => simp [Go.RowKit.intOf]; omega
          · have q1 : (100 : Int) < (x.prev.size : Int) := by omega
            have q2 : 100 < x.prev.size := by omega
            have HE := Lib.hid (few46_no (pubs := pubs) (l := l) (vows := vows) (fun h => h1 (h.2.1 x (List.mem_of_getElem? HX.out))))
            clear h1
            go_wp2_with fail
            go_ret
            exact retB_mk HE.out (Below.refl _ _)
        · obtain rfl : k = l.length := by omega
          have HA := Lib.hid (upto_mem HNO.out)
          clear hlt hk HNO
          by_cases h1 : l.length ≤ 10
          · have q1 : (l.length : Int) ≤ 10 := by omega
            by_cases h2 : pubs.length ≤ 10
            · have q2 : (pubs.length : Int) ≤ 10 := by omega
              by_cases h3 : vows.length ≤ 4
              · have q3 : (vows.length : Int) ≤ 4 := by omega
                have HE := Lib.hid (few46_iff.2 ⟨HP.out, HA.out, h1, h2, h3⟩)
                go_wp2_with fail
                go_ret
                exact retB_mk HE.out (Below.refl _ _)
              · have q3 : ¬ (vows.length : Int) ≤ 4 := by omega
                have HE := Lib.hid (few46_no (pubs := pubs) (l := l) (vows := vows) (fun h => h3 h.2.2.2.2))
                go_wp2_with fail
                go_ret
                exact retB_mk HE.out (Below.refl _ _)
            · have q2 : ¬ (pubs.length : Int) ≤ 10 := by omega
              have HE := Lib.hid (few46_no (pubs := pubs) (l := l) (vows := vows) (fun h => h2 h.2.2.2.1))
              go_wp2_with fail
              go_ret
              exact retB_mk HE.out (Below.refl _ _)
          · have q1 : ¬ (l.length : Int) ≤ 10 := by omega
            have HE := Lib.hid (few46_no (pubs := pubs) (l := l) (vows := vows) (fun h => h1 h.2.2.1))
            go_wp2_with fail
            go_ret
            exact retB_mk HE.out (Below.refl _ _)
set_option maxRecDepth 100000 in
set_option maxHeartbeats 4000000 in
theorem plain_any (x : BsX) (ar : Option Addr) (cr : Nat) (err : Int) (room : List Int) (w : World) (hL : LArg RInt 1 (.slice ar room.length cr) room w) : Calls Tryz.prog 7 #[.agg #[.string x.nm, .slice x.a1 x.n1 x.c1, .int .i64 x.k, .slice x.a3 x.n3 x.c3, .slice x.a4 x.n4 x.c4, .slice x.a5 x.n5 x.c5, .slice x.a6 x.n6 x.c6, .slice x.a7 x.n7 x.c7, .slice x.a8 x.n8 x.c8, .slice ar room.length cr, .int .i64 err]] w (RetB (plainB room err) w) := by
  obtain ⟨_, _, hq1, hq2, hq3⟩ := hL.slice
  simp only [Value.slice.injEq] at hq1
  obtain ⟨-, -, rfl⟩ := hq1
  unfold maxLen at hq3
  have HL := Lib.hid hL
  have hrl : room.length ≤ 9223372036854775807 := by omega
  clear hL hq2 hq3
  have HR := Lib.hid ((RowsS.nil w).alloc (.cells #[.string x.nm, .slice x.a1 x.n1 x.c1, .int .i64 x.k, .slice x.a3 x.n3 x.c3, .slice x.a4 x.n4 x.c4, .slice x.a5 x.n5 x.c5, .slice x.a6 x.n6 x.c6, .slice x.a7 x.n7 x.c7, .slice x.a8 x.n8 x.c8, .slice ar room.length cr, .int .i64 err] 31))
  go_enter Tryz.func7, Tryz.ntmps7
  go_upto_region 1 with fail
  generalize w.alloc (.cells #[.string x.nm, .slice x.a1 x.n1 x.c1, .int .i64 x.k, .slice x.a3 x.n3 x.c3, .slice x.a4 x.n4 x.c4, .slice x.a5 x.n5 x.c5, .slice x.a6 x.n6 x.c6, .slice x.a7 x.n7 x.c7, .slice x.a8 x.n8 x.c8, .slice ar room.length cr, .int .i64 err] 31) = w0 at *
  have c9 := HR.out.cell 0 9 rfl rfl
  have c10 := HR.out.cell 0 10 rfl rfl
  by_cases h1 : room.length = 3
  · have q1 : ((room.length : Int) != 3) = false := by rw [bne_eq_false_iff_eq]; omega
    have q1b : (room.length : Int) = 3 := by omega
    have q1c : ((room.length : Int) == 3) = true := by rw [beq_iff_eq]; omega
    by_cases h2 : err < 0
    · have q2 : decide (err < 0) = true := decide_eq_true h2
      have HE := Lib.hid (plain_no (room := room) (err := err) (fun h => by have := h.2.1; omega))
      go_wp2_with fail
      go_ret
      exact retB_mk HE.out HR.out.below
    · have q2 : decide (err < 0) = false := decide_eq_false h2
      by_cases h3 : 1099511627776 < err
      · have q3 : decide (1099511627776 < err) = true := decide_eq_true h3
        have HE := Lib.hid (plain_no (room := room) (err := err) (fun h => by have := h.2.1; omega))
        go_wp2_with fail
        go_ret
        exact retB_mk HE.out HR.out.below
      · have q3 : decide (1099511627776 < err) = false := decide_eq_false h3
        go_wp2_with fail
        clear q1 q1c q2 q3
        go_loopw [3] (fun iv wx => ∃ k : Nat, k ≤ room.length ∧ iv = .int .i64 k ∧ (∀ (i : Nat) (r : Int), i < k → room[i]? = some r → 0 ≤ r ∧ r ≤ 1125899906842624) ∧ w0 = wx) (fun iv _ => room.length - (Go.RowKit.intOf iv).toNat)
        case atStart => exact ⟨0, Nat.zero_le _, rfl, fun i x h => absurd h (Nat.not_lt_zero _), rfl⟩
        case round =>
          obtain ⟨k, hk, rfl, hno, rfl⟩ := hrel
          have HNO := Lib.hid hno
          clear hno
          by_cases hlt : k < room.length
          · obtain ⟨r, hr⟩ : ∃ r, room[k]? = some r := ⟨_, List.getElem?_eq_getElem hlt⟩
            obtain ⟨b, o, cs, rfl, hbl, -, hrg, rfl, -⟩ := (HL.out.below stays_int HR.out.below).at hr
            have HX := Lib.hid hr
            have hlt' : (k : Int) < (room.length : Int) := by omega
            have ce := hrg 0 _ rfl
            simp only [Nat.mul_one, Nat.add_zero] at ce
            clear hr hrg
            by_cases h4 : r < 0
            · have q4 : decide (r < 0) = true := decide_eq_true h4
              have HE := Lib.hid (plain_no (room := room) (err := err) (fun h => by have := h.2.2 r (List.mem_of_getElem? HX.out); omega))
              go_wp2_with fail
              go_ret
              exact retB_mk HE.out HR.out.below
            · have q4 : decide (r < 0) = false := decide_eq_false h4
              by_cases h5 : 1125899906842624 < r
              · have q5 : decide (1125899906842624 < r) = true := decide_eq_true h5
                have HE := Lib.hid (plain_no (room := room) (err := err) (fun h => by have := h.2.2 r (List.mem_of_getElem? HX.out); omega))
                go_wp2_with fail
                go_ret
                exact retB_mk HE.out HR.out.below
              · have q5 : decide (1125899906842624 < r) = false := decide_eq_false h5
                have HN := Lib.hid (upto_snoc HNO.out HX.out ⟨by omega, by omega⟩)
                go_wp2_with fail
                go_roundw
                case rel => exact ⟨k + 1, by omega, by go_num, HN.out, trivial⟩
                case measure => simp [Go.RowKit.intOf]; omega
          · obtain rfl : k = room.length := by omega
            have HE := Lib.hid (plain_iff.2 ⟨h1, ⟨by omega, by omega⟩, upto_mem HNO.out⟩)
            have hlt' : ¬ (room.length : Int) < (room.length : Int) := by omega
            clear hlt hk h1 h2 h3 q1b
            go_wp2_with fail
            go_ret
            exact retB_mk HE.out HR.out.below
  · have q1 : ((room.length : Int) != 3) = true := by rw [bne_iff_ne]; omega
    have q1b : ¬ (room.length : Int) = 3 := by omega
    have q1c : ((room.length : Int) == 3) = false := by rw [beq_eq_false_iff_ne]; omega
    have HE := Lib.hid (plain_no (room := room) (err := err) (fun h => h1 h.1))
    go_wp2_with fail
    go_ret
    exact retB_mk HE.out HR.out.below
end Go.Proofs.YtjbjpkhibcnenaaGreatDoor

