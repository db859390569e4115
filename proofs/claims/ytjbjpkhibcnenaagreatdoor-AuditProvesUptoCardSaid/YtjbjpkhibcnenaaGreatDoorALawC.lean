/- Texts merged: ALawB ALawC -/
import Derived.Test.YtjbjpkhibcnenaaGreatDoorALawA
/- bournelaw46: has, few, plain. -/
namespace Go.Proofs.YtjbjpkhibcnenaaGreatDoor
open Go.RowKit
theorem any_snoc {α : Type} {P : α → Bool} {l : List α} {j : Nat} {x : α} (h : l[j]? = some x) : (l.take (j + 1)).any P = ((l.take j).any P || P x) := by
  rw [List.take_add_one, h]
  simp
open Classical in
noncomputable def fewB46 (pubs : List PublicV) (l : List CV) (vows : List PV) : Bool := decide ((∀ p ∈ pubs, p.net.length ≤ 10) ∧ (∀ c ∈ l, c.prev.size ≤ 100) ∧ l.length ≤ 10 ∧ pubs.length ≤ 10 ∧ vows.length ≤ 4)
open Classical in
theorem few46_no {pubs : List PublicV} {l : List CV} {vows : List PV} (h : ¬ ((∀ p ∈ pubs, p.net.length ≤ 10) ∧ (∀ c ∈ l, c.prev.size ≤ 100) ∧ l.length ≤ 10 ∧ pubs.length ≤ 10 ∧ vows.length ≤ 4)) : fewB46 pubs l vows = false := by
  unfold fewB46
  exact decide_eq_false h
open Classical in
theorem few46_iff {pubs : List PublicV} {l : List CV} {vows : List PV} : fewB46 pubs l vows = true ↔ ((∀ p ∈ pubs, p.net.length ≤ 10) ∧ (∀ c ∈ l, c.prev.size ≤ 100) ∧ l.length ≤ 10 ∧ pubs.length ≤ 10 ∧ vows.length ≤ 4) := by
  unfold fewB46
  exact decide_eq_true_iff
open Classical in
noncomputable def plainB (room : List Int) (err : Int) : Bool := decide (room.length = 3 ∧ (0 ≤ err ∧ err ≤ 1099511627776) ∧ ∀ r ∈ room, 0 ≤ r ∧ r ≤ 1125899906842624)
open Classical in
theorem plain_no {room : List Int} {err : Int} (h : ¬ (room.length = 3 ∧ (0 ≤ err ∧ err ≤ 1099511627776) ∧ ∀ r ∈ room, 0 ≤ r ∧ r ≤ 1125899906842624)) : plainB room err = false := by
  unfold plainB
  exact decide_eq_false h
open Classical in
theorem plain_iff {room : List Int} {err : Int} : plainB room err = true ↔ (room.length = 3 ∧ (0 ≤ err ∧ err ≤ 1099511627776) ∧ ∀ r ∈ room, 0 ≤ r ∧ r ≤ 1125899906842624) := by
  unfold plainB
  exact decide_eq_true_iff
theorem upto_snoc {α : Type} {P : α → Prop} {l : List α} {k : Nat} {x : α} (h : ∀ (i : Nat) (y : α), i < k → l[i]? = some y → P y) (hx : l[k]? = some x) (hp : P x) : ∀ (i : Nat) (y : α), i < k + 1 → l[i]? = some y → P y := fun i y hi hy => by
  by_cases e : i = k
  · subst e; rw [hx] at hy; cases hy; exact hp
  · exact h i y (by omega) hy
theorem upto_mem {α : Type} {P : α → Prop} {l : List α} (h : ∀ (i : Nat) (y : α), i < l.length → l[i]? = some y → P y) : ∀ y ∈ l, P y := fun y hy => by
  obtain ⟨i, hi⟩ := List.getElem?_of_mem hy
  exact h i y (List.getElem?_eq_some_iff.1 hi).1 hi
set_option maxRecDepth 100000 in
set_option maxHeartbeats 4000000 in
theorem has_any (l : List BlV) (v : Value) (ow ww : Int) (w : World) (hL : LArg RBl 9 v l w) (hl : l.length ≤ 1000) : Calls Tryz.prog 13 #[v, .int .i64 ow, .int .i64 ww] w (RetB (hasB l ow ww) w) := by
  obtain ⟨al, lc, rfl, hlc, hlm⟩ := hL.slice
  have HL := Lib.hid hL
  clear hL hlc hlm
  go_enter Tryz.func13, Tryz.ntmps13
  go_wp2_with fail
  go_loopw [7] (fun iv wx => ∃ k : Nat, k ≤ l.length ∧ iv = .int .i64 k ∧ (∀ (i : Nat) (x : BlV), i < k → l[i]? = some x → ¬ (x.office = ow ∧ x.why = ww)) ∧ w = wx) (fun iv _ => l.length - (Go.RowKit.intOf iv).toNat)
  case atStart => exact ⟨0, Nat.zero_le _, rfl, fun i x h => absurd h (Nat.not_lt_zero _), rfl⟩
  case round =>
    obtain ⟨k, hk, rfl, hno, rfl⟩ := hrel
    have HNO := Lib.hid hno
    clear hno
    by_cases hlt : k < l.length
    · obtain ⟨x, hx⟩ : ∃ x, l[k]? = some x := ⟨_, List.getElem?_eq_getElem hlt⟩
      obtain ⟨b, o, cs, rfl, hbl, -, hrg, u, rfl, -, -⟩ := HL.out.at hx
      have HX := Lib.hid hx
      have hlt' : (k : Int) < (l.length : Int) := by omega
      have c0 : w.cell? ⟨b, o + k * 9, none⟩ = some (.int .i64 x.office) := hrg 0 _ rfl
      have c1 : w.cell? ⟨b, o + k * 9 + 1, none⟩ = some (.int .i64 x.why) := hrg 1 _ rfl
      clear hx hrg
      by_cases h1 : x.office = ow
      · have q1 : (x.office == ow) = true := by rw [beq_iff_eq]; exact h1
        have q2 : decide (x.office = ow) = true := decide_eq_true h1
        by_cases h2 : x.why = ww
        · have q3 : (x.why == ww) = true := by rw [beq_iff_eq]; exact h2
          have q4 : decide (x.why = ww) = true := decide_eq_true h2
          have HE : Hid (hasB l ow ww = true) := Lib.hid (hasB_iff.2 ⟨x, List.mem_of_getElem? HX.out, h1, h2⟩)
          clear h1 h2
          go_wp2_with fail
          go_ret
          exact retB_mk HE.out (Below.refl _ _)
        · have q3 : (x.why == ww) = false := by rw [beq_eq_false_iff_ne]; exact h2
          have q4 : decide (x.why = ww) = false := decide_eq_false h2
          have HN := Lib.hid (upto_snoc HNO.out HX.out (fun h => h2 h.2))
          clear h1 h2
          go_wp2_with fail
          go_roundw
          case rel => exact ⟨k + 1, by omega, by go_num, HN.out, trivial⟩
          case measure => simp [Go.RowKit.intOf]; omega
      · have q1 : (x.office == ow) = false := by rw [beq_eq_false_iff_ne]; exact h1
        have q2 : decide (x.office = ow) = false := decide_eq_false h1
        have HN := Lib.hid (upto_snoc HNO.out HX.out (fun h => h1 h.1))
        clear h1
        go_wp2_with fail
        go_roundw
        case rel => exact ⟨k + 1, by omega, by go_num, HN.out, trivial⟩
        case measure => simp [Go.RowKit.intOf]; omega
    · obtain rfl : k = l.length := by omega
      have HE : Hid (hasB l ow ww = false) := Lib.hid (by
        rw [Bool.eq_false_iff]
        intro h
        obtain ⟨y, hy, h2⟩ := hasB_iff.1 h
        exact upto_mem HNO.out y hy h2)
      clear hlt hk
      go_wp2_with fail
      go_ret
      exact retB_mk HE.out (Below.refl _ _)
set_option maxRecDepth 100000 in
set_option maxHeartbeats 4000000 in
theorem few46_any (pubs : List PublicV) (l : List CV) (vows : List PV) (aq ac av : Option Addr) (nq nc nv : Nat) (w : World) (hQ : LArg RPublic 4 (.slice aq pubs.length nq) pubs w) (hC : LArg RC 8 (.slice ac l.length nc) l w) (hV : LArg RP 6 (.slice av vows.length nv) vows w) : Calls Tryz.prog 8 #[.slice aq pubs.length nq, .slice ac l.length nc, .slice av vows.length nv] w (RetB (fewB46 pubs l vows) w) := by
  obtain ⟨_, _, hq1, hq2, hq3⟩ := hQ.slice
  obtain ⟨_, _, hc1, hc2, hc3⟩ := hC.slice
  obtain ⟨_, _, hv1, hv2, hv3⟩ := hV.slice
  simp only [Value.slice.injEq] at hq1 hc1 hv1
  obtain ⟨-, -, rfl⟩ := hq1
  obtain ⟨-, -, rfl⟩ := hc1
  obtain ⟨-, -, rfl⟩ := hv1
  unfold maxLen at hq3 hc3 hv3
  have HQ := Lib.hid hQ
  have HC := Lib.hid hC
  have hql : pubs.length ≤ 9223372036854775807 := by omega
  have hcl : l.length ≤ 9223372036854775807 := by omega
  have hvl : vows.length ≤ 9223372036854775807 := by omega
  clear hQ hC hV hq2 hq3 hc2 hc3 hv2 hv3
  go_enter Tryz.func8, Tryz.ntmps8
  go_wp2_with fail
  go_loopw [7] (fun iv wx => ∃ k : Nat, k ≤ pubs.length ∧ iv = .int .i64 k ∧ (∀ (i : Nat) (x : PublicV), i < k → pubs[i]? = some x → x.net.length ≤ 10) ∧ w = wx) (fun iv _ => pubs.length - (Go.RowKit.intOf iv).toNat)
  case atStart => exact ⟨0, Nat.zero_le _, rfl, fun i x h => absurd h (Nat.not_lt_zero _), rfl⟩
  case round =>
    obtain ⟨k, hk, rfl, hno, rfl⟩ := hrel
    have HNO := Lib.hid hno
    clear hno
    by_cases hlt : k < pubs.length
    · obtain ⟨x, hx⟩ : ∃ x, pubs[k]? = some x := ⟨_, List.getElem?_eq_getElem hlt⟩
      obtain ⟨b, o, cs, rfl, hbl, -, hrg, u, rfl, -, -, -, hn⟩ := HQ.out.at hx
      obtain ⟨an, cn, rfl, hn1, hn2⟩ := hn.slice
      unfold maxLen at hn2
      have hnl : x.net.length ≤ 9223372036854775807 := by omega
      have HX := Lib.hid hx
      have hlt' : (k : Int) < (pubs.length : Int) := by omega
      have c1 : w.cell? ⟨b, o + k * 4 + 1, none⟩ = some (.slice an x.net.length cn) := hrg 1 _ rfl
      clear hx hrg hn hn1 hn2
      by_cases h1 : x.net.length ≤ 10
      · have q1 : ¬ (10 : Int) < (x.net.length : Int) := by omega
        have q2 : ¬ 10 < x.net.length := by omega
        have HN := Lib.hid (upto_snoc HNO.out HX.out h1)
        clear h1
        go_wp2_with fail
        go_roundw
        case rel => exact ⟨k + 1, by omega, by go_num, HN.out, trivial⟩
        case measure => simp [Go.RowKit.intOf]; omega
      · have q1 : (10 : Int) < (x.net.length : Int) := by omega
        have q2 : 10 < x.net.length := by omega
        have HE := Lib.hid (few46_no (pubs := pubs) (l := l) (vows := vows) (fun h => h1 (h.1 x (List.mem_of_getElem? HX.out))))
        clear h1
        go_wp2_with fail
        go_ret
        exact retB_mk HE.out (Below.refl _ _)
    · obtain rfl : k = pubs.length := by omega
      have HP := Lib.hid (upto_mem HNO.out)
      clear hlt hk HNO
      go_wp2_with fail
      go_loopw [8] (fun iv wx => ∃ k : Nat, k ≤ l.length ∧ iv = .int .i64 k ∧ (∀ (i : Nat) (x : CV), i < k → l[i]? = some x → x.prev.size ≤ 100) ∧ w = wx) (fun iv _ => l.length - (Go.RowKit.intOf iv).toNat)
      case atStart => exact ⟨0, Nat.zero_le _, rfl, fun i x h => absurd h (Nat.not_lt_zero _), rfl⟩
      case round =>
        obtain ⟨k, hk, rfl, hno, rfl⟩ := hrel
        have HNO := Lib.hid hno
        clear hno
        by_cases hlt : k < l.length
        · obtain ⟨x, hx⟩ : ∃ x, l[k]? = some x := ⟨_, List.getElem?_eq_getElem hlt⟩
          obtain ⟨b, o, cs, rfl, hbl, -, hrg, hcs, -, hps⟩ := HC.out.at hx
          unfold cellsC at hcs
          subst hcs
          unfold maxLen at hps
          have HX := Lib.hid hx
          have hlt' : (k : Int) < (l.length : Int) := by omega
          have c5 : w.cell? ⟨b, o + k * 8 + 5, none⟩ = some (.string x.prev) := hrg 5 _ rfl
          clear hx hrg
          by_cases h1 : x.prev.size ≤ 100
          · have q1 : ¬ (100 : Int) < (x.prev.size : Int) := by omega
            have q2 : ¬ 100 < x.prev.size := by omega
            have HN := Lib.hid (upto_snoc HNO.out HX.out h1)
            clear h1
            go_wp2_with fail
            go_roundw
            case rel => exact ⟨k + 1, by omega, by go_num, HN.out, trivial⟩
            case measure => simp [Go.RowKit.intOf]; omega
          · have q1 : (100 : Int) < (x.prev.size : Int) := by omega
            have q2 : 100 < x.prev.size := by omega
            have HE := Lib.hid (few46_no (pubs := pubs) (l := l) (vows := vows) (fun h => h1 (h.2.1 x (List.mem_of_getElem? HX.out))))
            clear h1
            go_wp2_with fail
            go_ret
            exact retB_mk HE.out (Below.refl _ _)
        · obtain rfl : k = l.length := by omega
          have HA := Lib.hid (upto_mem HNO.out)
          clear hlt hk HNO
          by_cases h1 : l.length ≤ 10
          · have q1 : (l.length : Int) ≤ 10 := by omega
            by_cases h2 : pubs.length ≤ 10
            · have q2 : (pubs.length : Int) ≤ 10 := by omega
              by_cases h3 : vows.length ≤ 4
              · have q3 : (vows.length : Int) ≤ 4 := by omega
                have HE := Lib.hid (few46_iff.2 ⟨HP.out, HA.out, h1, h2, h3⟩)
                go_wp2_with fail
                go_ret
                exact retB_mk HE.out (Below.refl _ _)
              · have q3 : ¬ (vows.length : Int) ≤ 4 := by omega
                have HE := Lib.hid (few46_no (pubs := pubs) (l := l) (vows := vows) (fun h => h3 h.2.2.2.2))
                go_wp2_with fail
                go_ret
                exact retB_mk HE.out (Below.refl _ _)
            · have q2 : ¬ (pubs.length : Int) ≤ 10 := by omega
              have HE := Lib.hid (few46_no (pubs := pubs) (l := l) (vows := vows) (fun h => h2 h.2.2.2.1))
              go_wp2_with fail
              go_ret
              exact retB_mk HE.out (Below.refl _ _)
          · have q1 : ¬ (l.length : Int) ≤ 10 := by omega
            have HE := Lib.hid (few46_no (pubs := pubs) (l := l) (vows := vows) (fun h => h1 h.2.2.1))
            go_wp2_with fail
            go_ret
            exact retB_mk HE.out (Below.refl _ _)
set_option maxRecDepth 100000 in
set_option maxHeartbeats 4000000 in
theorem plain_any (x : BsX) (ar : Option Addr) (cr : Nat) (err : Int) (room : List Int) (w : World) (hL : LArg RInt 1 (.slice ar room.length cr) room w) : Calls Tryz.prog 7 #[.agg #[.string x.nm, .slice x.a1 x.n1 x.c1, .int .i64 x.k, .slice x.a3 x.n3 x.c3, .slice x.a4 x.n4 x.c4, .slice x.a5 x.n5 x.c5, .slice x.a6 x.n6 x.c6, .slice x.a7 x.n7 x.c7, .slice x.a8 x.n8 x.c8, .slice ar room.length cr, .int .i64 err]] w (RetB (plainB room err) w) := by
  obtain ⟨_, _, hq1, hq2, hq3⟩ := hL.slice
  simp only [Value.slice.injEq] at hq1
  obtain ⟨-, -, rfl⟩ := hq1
  unfold maxLen at hq3
  have HL := Lib.hid hL
  have hrl : room.length ≤ 9223372036854775807 := by omega
  clear hL hq2 hq3
  have HR := Lib.hid ((RowsS.nil w).alloc (.cells #[.string x.nm, .slice x.a1 x.n1 x.c1, .int .i64 x.k, .slice x.a3 x.n3 x.c3, .slice x.a4 x.n4 x.c4, .slice x.a5 x.n5 x.c5, .slice x.a6 x.n6 x.c6, .slice x.a7 x.n7 x.c7, .slice x.a8 x.n8 x.c8, .slice ar room.length cr, .int .i64 err] 31))
  go_enter Tryz.func7, Tryz.ntmps7
  go_upto_region 1 with fail
  generalize w.alloc (.cells #[.string x.nm, .slice x.a1 x.n1 x.c1, .int .i64 x.k, .slice x.a3 x.n3 x.c3, .slice x.a4 x.n4 x.c4, .slice x.a5 x.n5 x.c5, .slice x.a6 x.n6 x.c6, .slice x.a7 x.n7 x.c7, .slice x.a8 x.n8 x.c8, .slice ar room.length cr, .int .i64 err] 31) = w0 at *
  have c9 := HR.out.cell 0 9 rfl rfl
  have c10 := HR.out.cell 0 10 rfl rfl
  by_cases h1 : room.length = 3
  · have q1 : ((room.length : Int) != 3) = false := by rw [bne_eq_false_iff_eq]; omega
    have q1b : (room.length : Int) = 3 := by omega
    have q1c : ((room.length : Int) == 3) = true := by rw [beq_iff_eq]; omega
    by_cases h2 : err < 0
    · have q2 : decide (err < 0) = true := decide_eq_true h2
      have HE := Lib.hid (plain_no (room := room) (err := err) (fun h => by have := h.2.1; omega))
      go_wp2_with fail
      go_ret
      exact retB_mk HE.out HR.out.below
    · have q2 : decide (err < 0) = false := decide_eq_false h2
      by_cases h3 : 1099511627776 < err
      · have q3 : decide (1099511627776 < err) = true := decide_eq_true h3
        have HE := Lib.hid (plain_no (room := room) (err := err) (fun h => by have := h.2.1; omega))
        go_wp2_with fail
        go_ret
        exact retB_mk HE.out HR.out.below
      · have q3 : decide (1099511627776 < err) = false := decide_eq_false h3
        go_wp2_with fail
        clear q1 q1c q2 q3
        go_loopw [3] (fun iv wx => ∃ k : Nat, k ≤ room.length ∧ iv = .int .i64 k ∧ (∀ (i : Nat) (r : Int), i < k → room[i]? = some r → 0 ≤ r ∧ r ≤ 1125899906842624) ∧ w0 = wx) (fun iv _ => room.length - (Go.RowKit.intOf iv).toNat)
        case atStart => exact ⟨0, Nat.zero_le _, rfl, fun i x h => absurd h (Nat.not_lt_zero _), rfl⟩
        case round =>
          obtain ⟨k, hk, rfl, hno, rfl⟩ := hrel
          have HNO := Lib.hid hno
          clear hno
          by_cases hlt : k < room.length
          · obtain ⟨r, hr⟩ : ∃ r, room[k]? = some r := ⟨_, List.getElem?_eq_getElem hlt⟩
            obtain ⟨b, o, cs, rfl, hbl, -, hrg, rfl, -⟩ := (HL.out.below stays_int HR.out.below).at hr
            have HX := Lib.hid hr
            have hlt' : (k : Int) < (room.length : Int) := by omega
            have ce := hrg 0 _ rfl
            simp only [Nat.mul_one, Nat.add_zero] at ce
            clear hr hrg
            by_cases h4 : r < 0
            · have q4 : decide (r < 0) = true := decide_eq_true h4
              have HE := Lib.hid (plain_no (room := room) (err := err) (fun h => by have := h.2.2 r (List.mem_of_getElem? HX.out); omega))
              go_wp2_with fail
              go_ret
              exact retB_mk HE.out HR.out.below
            · have q4 : decide (r < 0) = false := decide_eq_false h4
              by_cases h5 : 1125899906842624 < r
              · have q5 : decide (1125899906842624 < r) = true := decide_eq_true h5
                have HE := Lib.hid (plain_no (room := room) (err := err) (fun h => by have := h.2.2 r (List.mem_of_getElem? HX.out); omega))
                go_wp2_with fail
                go_ret
                exact retB_mk HE.out HR.out.below
              · have q5 : decide (1125899906842624 < r) = false := decide_eq_false h5
                have HN := Lib.hid (upto_snoc HNO.out HX.out ⟨by omega, by omega⟩)
                go_wp2_with fail
                go_roundw
                case rel => exact ⟨k + 1, by omega, by go_num, HN.out, trivial⟩
                case measure => simp [Go.RowKit.intOf]; omega
          · obtain rfl : k = room.length := by omega
            have HE := Lib.hid (plain_iff.2 ⟨h1, ⟨by omega, by omega⟩, upto_mem HNO.out⟩)
            have hlt' : ¬ (room.length : Int) < (room.length : Int) := by omega
            clear hlt hk h1 h2 h3 q1b
            go_wp2_with fail
            go_ret
            exact retB_mk HE.out HR.out.below
  · have q1 : ((room.length : Int) != 3) = true := by rw [bne_iff_ne]; omega
    have q1b : ¬ (room.length : Int) = 3 := by omega
    have q1c : ((room.length : Int) == 3) = false := by rw [beq_eq_false_iff_ne]; omega
    have HE := Lib.hid (plain_no (room := room) (err := err) (fun h => h1 h.1))
    go_wp2_with fail
    go_ret
    exact retB_mk HE.out HR.out.below
end Go.Proofs.YtjbjpkhibcnenaaGreatDoor
/- bournelaw46: listed. -/
namespace Go.Proofs.YtjbjpkhibcnenaaGreatDoor
open Go.RowKit
theorem pvExt {c d : PV} (h1 : c.office = d.office) (h2 : c.since = d.since) (h3 : c.till = d.till) (h4 : c.litres = d.litres) (h5 : c.e = d.e) (h6 : c.s = d.s) : c = d := by
  cases c; cases d
  simp only at h1 h2 h3 h4 h5 h6
  rw [h1, h2, h3, h4, h5, h6]
set_option maxHeartbeats 1000000 in
theorem eqlC (c f : CV) {w : World} {o : Oper} {ev : Operand → Value} {x y : Operand} {u : TypeId} (ho : o.op = .binOp .eql 63 x y u) (hx : ev x = .agg #[.int .i64 c.office, .int .i64 c.hour, .int .i64 c.inn, .int .i64 c.out, .int .i64 c.store, .string c.prev, .int .i64 c.e, .int .i64 c.s]) (hy : ev y = .agg #[.int .i64 f.office, .int .i64 f.hour, .int .i64 f.inn, .int .i64 f.out, .int .i64 f.store, .string f.prev, .int .i64 f.e, .int .i64 f.s]) : (execOp ev o).run Tryz.prog w = .ok (.value (.bool (decide (c = f)))) w := by
  unfold execOp
  by_cases h : c = f
  · subst h
    rw [decide_eq_true rfl]
    go_simp
    try simp
  · rw [decide_eq_false h]
    go_simp
    intro a1 a2 a3 a4 a5 a6 a7 a8
    exact h (cvExt a1 a2 a3 a4 a5 a6 a7 a8)
set_option maxHeartbeats 1000000 in
theorem eqlP (c f : PV) {w : World} {o : Oper} {ev : Operand → Value} {x y : Operand} {u : TypeId} (ho : o.op = .binOp .eql 38 x y u) (hx : ev x = .agg #[.int .i64 c.office, .int .i64 c.since, .int .i64 c.till, .int .i64 c.litres, .int .i64 c.e, .int .i64 c.s]) (hy : ev y = .agg #[.int .i64 f.office, .int .i64 f.since, .int .i64 f.till, .int .i64 f.litres, .int .i64 f.e, .int .i64 f.s]) : (execOp ev o).run Tryz.prog w = .ok (.value (.bool (decide (c = f)))) w := by
  unfold execOp
  by_cases h : c = f
  · subst h
    rw [decide_eq_true rfl]
    go_simp
    try simp
  · rw [decide_eq_false h]
    go_simp
    intro a1 a2 a3 a4 a5 a6
    exact h (pvExt a1 a2 a3 a4 a5 a6)
set_option maxRecDepth 100000 in
set_option maxHeartbeats 8000000 in
theorem listed_any (xo xw : Int) (xc : List CV) (xp : PV) (al ac av : Option Addr) (lc nc nv : Nat) (l : List CV) (vows : List PV) (w : World) (hX : LArg RC 8 (.slice al xc.length lc) xc w) (hC : LArg RC 8 (.slice ac l.length nc) l w) (hV : LArg RP 6 (.slice av vows.length nv) vows w) (h1 : xc.length ≤ 1000) (h2 : l.length ≤ 1000) (h3 : vows.length ≤ 1000) :
    Calls Tryz.prog 12 #[.agg #[.int .i64 xo, .int .i64 xw, .slice al xc.length lc, .int .i64 xp.office, .int .i64 xp.since, .int .i64 xp.till, .int .i64 xp.litres, .int .i64 xp.e, .int .i64 xp.s], .slice ac l.length nc, .slice av vows.length nv] w (RetB (listedB ⟨xo, xw, xc, xp⟩ l vows) w) := by
  have HX := Lib.hid hX
  have HC := Lib.hid hC
  have HW := Lib.hid hV
  have HR := Lib.hid ((RowsS.nil w).alloc (.cells #[.int .i64 xo, .int .i64 xw, .slice al xc.length lc, .int .i64 xp.office, .int .i64 xp.since, .int .i64 xp.till, .int .i64 xp.litres, .int .i64 xp.e, .int .i64 xp.s] 40))
  clear hX hC hV
  go_enter Tryz.func12, Tryz.ntmps12
  go_upto_region 1 with fail
  generalize w.alloc (.cells #[.int .i64 xo, .int .i64 xw, .slice al xc.length lc, .int .i64 xp.office, .int .i64 xp.since, .int .i64 xp.till, .int .i64 xp.litres, .int .i64 xp.e, .int .i64 xp.s] 40) = w0 at *
  go_wp2_with fail
  go_loopw [7] (fun iv wx => ∃ i : Nat, i ≤ xc.length ∧ iv = .int .i64 i ∧ (∀ (m : Nat) (x : CV), m < i → xc[m]? = some x → (l.any (fun d => decide (d = x))) = true) ∧ RowsS w [(w.heap.size, .cells #[.int .i64 xo, .int .i64 xw, .slice al xc.length lc, .int .i64 xp.office, .int .i64 xp.since, .int .i64 xp.till, .int .i64 xp.litres, .int .i64 xp.e, .int .i64 xp.s] 40)] wx) (fun iv _ => xc.length - (Go.RowKit.intOf iv).toNat)
  case atStart => exact ⟨0, Nat.zero_le _, rfl, fun i x h => absurd h (Nat.not_lt_zero _), HR.out⟩
  case round =>
    obtain ⟨i, hi, rfl, hno, hr⟩ := hrel
    have HNO := Lib.hid hno
    have HR0 := Lib.hid hr
    clear hno hr HR
    have x2 := HR0.out.cell 0 2 rfl rfl
    by_cases hlt : i < xc.length
    · obtain ⟨c, hc⟩ : ∃ c, xc[i]? = some c := ⟨_, List.getElem?_eq_getElem hlt⟩
      obtain ⟨b, o, cs, rfl, hbc, -, hrg, hcs, -⟩ := HX.out.at hc
      unfold cellsC at hcs
      subst hcs
      have HRC := Lib.hid hrg
      have HCc := Lib.hid hc
      have hlt' : (i : Int) < (xc.length : Int) := by omega
      clear hc hrg
      go_wp2_with fail
      clear x2
      rename World => wy
      go_loopw [8, 9] (fun fv iv wx => ∃ k : Nat, k ≤ l.length ∧ iv = .int .i64 k ∧ fv = .bool ((l.take k).any (fun d => decide (d = c))) ∧ RowsS w [(w.heap.size, .cells #[.int .i64 xo, .int .i64 xw, .slice (some ⟨b, o, none⟩) xc.length lc, .int .i64 xp.office, .int .i64 xp.since, .int .i64 xp.till, .int .i64 xp.litres, .int .i64 xp.e, .int .i64 xp.s] 40)] wx) (fun _ iv _ => l.length - (Go.RowKit.intOf iv).toNat)
      case atStart => exact ⟨0, Nat.zero_le _, rfl, rfl, HR0.out⟩
      case round =>
        clear HR0
        obtain ⟨k, hk, rfl, rfl, hr⟩ := hrel
        have HR1 := Lib.hid hr
        clear hr
        by_cases hlk : k < l.length
        · obtain ⟨d, hd⟩ : ∃ d, l[k]? = some d := ⟨_, List.getElem?_eq_getElem hlk⟩
          obtain ⟨b2, o2, cs, rfl, hbd, -, hrg, hcs, -⟩ := HC.out.at hd
          unfold cellsC at hcs
          subst hcs
          have HRD := Lib.hid hrg
          have HD := Lib.hid hd
          have hlk' : (k : Int) < (l.length : Int) := by omega
          clear hd hrg
          cases hb0 : (l.take k).any (fun d => decide (d = c)) with
          | true =>
            have HB0 := Lib.hid hb0
            clear hb0
            go_upto_region 8 with fail
            refine wp_region_noPanic ?_
            refine wp_region_held_drew (S := fun cw => RowsS w [(w.heap.size, .cells #[.int .i64 xo, .int .i64 xw, .slice (some ⟨b, o, none⟩) xc.length lc, .int .i64 xp.office, .int .i64 xp.since, .int .i64 xp.till, .int .i64 xp.litres, .int .i64 xp.e, .int .i64 xp.s] 40)] cw) (by kernel_rfl) (HR1.out.drew) (fun hHeld => ?_)
            refine tn 0 ?_
            try simp only [Act.put, aL1, aL2, aL3]
            refine tn 1 ?_
            try simp only [Act.put, aL1, aL2, aL3]
            refine skn 2 [(2, some 27), (3, some 28), (4, some 29), (5, some 30), (6, some 31), (7, some 32), (8, some 33), (9, some 34), (10, some 35), (11, some 36)] ?_
            simp only [List.foldl_cons, List.foldl_nil, Act.put, aL1, aL2, aL3]
            refine tn 12 ?_
            try simp only [Act.put, aL1, aL2, aL3]
            refine tn 13 ?_
            try simp only [Act.put, aL1, aL2, aL3]
            refine rdone (NoPanic.normal ?_)
            have HV : Hid ((l.take (k + 1)).any (fun d => decide (d = c)) = true) := Lib.hid (by rw [any_snoc HD.out, HB0.out]; rfl)
            go_wp2_with fail
            go_roundw
            case rel => exact ⟨k + 1, by omega, by go_num, by rw [HV.out], hHeld⟩
            case measure => simp [Go.RowKit.intOf]; omega
          | false =>
            have HB0 := Lib.hid hb0
            clear hb0
            go_upto_region 8 with fail
            refine wp_region_noPanic ?_
            refine wp_region_held_drew (S := fun cw => RowsS w [(w.heap.size, .cells #[.int .i64 xo, .int .i64 xw, .slice (some ⟨b, o, none⟩) xc.length lc, .int .i64 xp.office, .int .i64 xp.since, .int .i64 xp.till, .int .i64 xp.litres, .int .i64 xp.e, .int .i64 xp.s] 40)] cw) (by kernel_rfl) (HR1.out.drew) (fun hHeld => ?_)
            refine tn 0 ?_
            try simp only [Act.put, aL1, aL2, aL3]
            refine tn 1 ?_
            try simp only [Act.put, aL1, aL2, aL3]
            refine tn 2 ?_
            try simp only [Act.put, aL1, aL2, aL3]
            refine tn 3 ?_
            try simp only [Act.put, aL1, aL2, aL3]
            refine tn 4 ?_
            try simp only [Act.put, aL1, aL2, aL3]
            refine tn 5 ?_ (hx := fun wz hSw => by refine exec_load_range 63 _ rfl _ _ ?_ _ _ (rangeAt_below HRD.out hSw.below hbd) undCm rfl infoCm; exact rfl)
            try simp only [Act.put, aL1, aL2, aL3]
            refine tn 6 ?_
            try simp only [Act.put, aL1, aL2, aL3]
            refine tn 7 ?_ (hx := fun wz hSw => by have e4 := hSw.cell 0 2 rfl rfl; go_simp; try with_reducible rfl)
            try simp only [Act.put, aL1, aL2, aL3]
            refine tn 8 ?_
            try simp only [Act.put, aL1, aL2, aL3]
            refine tn 9 ?_
            try simp only [Act.put, aL1, aL2, aL3]
            refine tn 10 ?_ (hx := fun wz hSw => by refine exec_load_range 63 _ rfl _ _ ?_ _ _ (rangeAt_below HRC.out hSw.below hbc) undCm rfl infoCm; exact rfl)
            try simp only [Act.put, aL1, aL2, aL3]
            refine tn 11 ?_ (hx := fun wz hSw => by exact eqlC d c rfl rfl rfl)
            try simp only [Act.put, aL1, aL2, aL3]
            refine tn 12 ?_
            try simp only [Act.put, aL1, aL2, aL3]
            refine tn 13 ?_
            try simp only [Act.put, aL1, aL2, aL3]
            refine rdone (NoPanic.normal ?_)
            have HV : Hid ((l.take (k + 1)).any (fun d => decide (d = c)) = decide (d = c)) := Lib.hid (by rw [any_snoc HD.out, HB0.out]; exact Bool.false_or _)
            go_wp2_with fail
            go_roundw
            case rel => exact ⟨k + 1, by omega, by go_num, by rw [HV.out], hHeld⟩
            case measure => simp [Go.RowKit.intOf]; omega
        · obtain rfl : k = l.length := by omega
          rw [List.take_length]
          have hlk' : ¬ (l.length : Int) < (l.length : Int) := by omega
          clear hlk hk
          cases hb0 : l.any (fun d => decide (d = c)) with
          | true =>
            have HN := Lib.hid (upto_snoc (P := fun x => (l.any (fun d => decide (d = x))) = true) HNO.out HCc.out hb0)
            clear hb0
            go_wp2_with fail
            go_roundw
            case rel => exact ⟨i + 1, by omega, by go_num, HN.out, HR1.out⟩
            case measure => simp [Go.RowKit.intOf]; omega
          | false =>
            have HE : Hid (listedB ⟨xo, xw, xc, xp⟩ l vows = false) := Lib.hid (by
              unfold listedB
              have : xc.all (fun c => l.any (fun d => decide (d = c))) = false := by
                rw [List.all_eq_false]
                exact ⟨c, List.mem_of_getElem? HCc.out, by rw [hb0]; decide⟩
              simp only [this, Bool.false_and])
            clear hb0
            go_wp2_with fail
            go_ret
            exact retB_mk HE.out HR1.out.below
    · obtain rfl : i = xc.length := by omega
      have HA : Hid (xc.all (fun c => l.any (fun d => decide (d = c))) = true) := Lib.hid (List.all_eq_true.2 (upto_mem HNO.out))
      have hlt' : ¬ (xc.length : Int) < (xc.length : Int) := by omega
      have x1 := HR0.out.cell 0 1 rfl rfl
      obtain ⟨b5, hb5⟩ : ∃ b5, b5 = decide (xw ≠ 5) := ⟨_, rfl⟩
      have q5 : (xw != 5) = b5 := by rw [hb5]; by_cases h : xw = 5 <;> simp [h]
      have HB5 := Lib.hid hb5
      clear hlt hi HNO hb5
      go_wp2_with fail
      clear x1 x2 q5
      rename World => wy
      go_loopw [10, 11] (fun fv iv wx => ∃ k : Nat, k ≤ vows.length ∧ iv = .int .i64 k ∧ fv = .bool (decide (xw ≠ 5) || (vows.take k).any (fun p => decide (p = xp))) ∧ RowsS w [(w.heap.size, .cells #[.int .i64 xo, .int .i64 xw, .slice al xc.length lc, .int .i64 xp.office, .int .i64 xp.since, .int .i64 xp.till, .int .i64 xp.litres, .int .i64 xp.e, .int .i64 xp.s] 40)] wx) (fun _ iv _ => vows.length - (Go.RowKit.intOf iv).toNat)
      case atStart => exact ⟨0, Nat.zero_le _, rfl, by rw [← HB5.out, List.take_zero, List.any_nil, Bool.or_false], HR0.out⟩
      case round =>
        clear HR0
        obtain ⟨k, hk, rfl, rfl, hr⟩ := hrel
        have HR1 := Lib.hid hr
        clear hr
        by_cases hlk : k < vows.length
        · obtain ⟨p, hd⟩ : ∃ d, vows[k]? = some d := ⟨_, List.getElem?_eq_getElem hlk⟩
          obtain ⟨b2, o2, cs, rfl, hbd, -, hrg, hcs, -⟩ := HW.out.at hd
          unfold cellsP at hcs
          subst hcs
          have HRD := Lib.hid hrg
          have HD := Lib.hid hd
          have hlk' : (k : Int) < (vows.length : Int) := by omega
          clear hd hrg
          cases hb0 : (decide (xw ≠ 5) || (vows.take k).any (fun p => decide (p = xp))) with
          | true =>
            have HB0 := Lib.hid hb0
            clear hb0
            go_upto_region 15 with fail
            refine wp_region_noPanic ?_
            refine wp_region_held_drew (S := fun cw => RowsS w [(w.heap.size, .cells #[.int .i64 xo, .int .i64 xw, .slice al xc.length lc, .int .i64 xp.office, .int .i64 xp.since, .int .i64 xp.till, .int .i64 xp.litres, .int .i64 xp.e, .int .i64 xp.s] 40)] cw) (by kernel_rfl) (HR1.out.drew) (fun hHeld => ?_)
            refine tn 0 ?_
            try simp only [Act.put, aL1, aL2, aL3]
            refine tn 1 ?_
            try simp only [Act.put, aL1, aL2, aL3]
            refine skn 2 [(2, some 51), (3, some 52), (4, some 53), (5, some 54), (6, some 55), (7, some 56), (8, some 57)] ?_
            simp only [List.foldl_cons, List.foldl_nil, Act.put, aL1, aL2, aL3]
            refine tn 9 ?_
            try simp only [Act.put, aL1, aL2, aL3]
            refine tn 10 ?_
            try simp only [Act.put, aL1, aL2, aL3]
            refine rdone (NoPanic.normal ?_)
            have HV : Hid ((decide (xw ≠ 5) || (vows.take (k + 1)).any (fun p => decide (p = xp))) = true) := Lib.hid (by rw [any_snoc HD.out, ← Bool.or_assoc, HB0.out]; rfl)
            go_wp2_with fail
            go_roundw
            case rel => exact ⟨k + 1, by omega, by go_num, by rw [HV.out], hHeld⟩
            case measure => simp [Go.RowKit.intOf]; omega
          | false =>
            have HB0 := Lib.hid hb0
            clear hb0
            go_upto_region 15 with fail
            refine wp_region_noPanic ?_
            refine wp_region_held_drew (S := fun cw => RowsS w [(w.heap.size, .cells #[.int .i64 xo, .int .i64 xw, .slice al xc.length lc, .int .i64 xp.office, .int .i64 xp.since, .int .i64 xp.till, .int .i64 xp.litres, .int .i64 xp.e, .int .i64 xp.s] 40)] cw) (by kernel_rfl) (HR1.out.drew) (fun hHeld => ?_)
            refine tn 0 ?_
            try simp only [Act.put, aL1, aL2, aL3]
            refine tn 1 ?_
            try simp only [Act.put, aL1, aL2, aL3]
            refine tn 2 ?_
            try simp only [Act.put, aL1, aL2, aL3]
            refine tn 3 ?_
            try simp only [Act.put, aL1, aL2, aL3]
            refine tn 4 ?_
            try simp only [Act.put, aL1, aL2, aL3]
            refine tn 5 ?_ (hx := fun wz hSw => by refine exec_load_range 38 _ rfl _ _ ?_ _ _ (rangeAt_below HRD.out hSw.below hbd) undPm rfl infoPm; exact rfl)
            try simp only [Act.put, aL1, aL2, aL3]
            refine tn 6 ?_
            try simp only [Act.put, aL1, aL2, aL3]
            refine tn 7 ?_ (hx := fun wz hSw => by refine exec_load_range 38 _ rfl _ _ ?_ _ _ (rangeN (hSw.row 0 rfl) 3 [.int .i64 xp.office, .int .i64 xp.since, .int .i64 xp.till, .int .i64 xp.litres, .int .i64 xp.e, .int .i64 xp.s] rfl) undPm rfl infoPm; exact rfl)
            try simp only [Act.put, aL1, aL2, aL3]
            refine tn 8 ?_ (hx := fun wz hSw => by exact eqlP p xp rfl rfl rfl)
            try simp only [Act.put, aL1, aL2, aL3]
            refine tn 9 ?_
            try simp only [Act.put, aL1, aL2, aL3]
            refine tn 10 ?_
            try simp only [Act.put, aL1, aL2, aL3]
            refine rdone (NoPanic.normal ?_)
            have HV : Hid ((decide (xw ≠ 5) || (vows.take (k + 1)).any (fun p => decide (p = xp))) = decide (p = xp)) := Lib.hid (by rw [any_snoc HD.out, ← Bool.or_assoc, HB0.out]; exact Bool.false_or _)
            go_wp2_with fail
            go_roundw
            case rel => exact ⟨k + 1, by omega, by go_num, by rw [HV.out], hHeld⟩
            case measure => simp [Go.RowKit.intOf]; omega
        · obtain rfl : k = vows.length := by omega
          rw [List.take_length]
          have hlk' : ¬ (vows.length : Int) < (vows.length : Int) := by omega
          clear hlk hk
          have HE : Hid (listedB ⟨xo, xw, xc, xp⟩ l vows = (decide (xw ≠ 5) || vows.any (fun p => decide (p = xp)))) := Lib.hid (by
            unfold listedB
            have := HA.out
            simp only [this, Bool.true_and])
          obtain ⟨b6, hb6⟩ : ∃ b6, b6 = (decide (xw ≠ 5) || vows.any (fun p => decide (p = xp))) := ⟨_, rfl⟩
          rw [← hb6]
          have HB6 := Lib.hid hb6
          clear hb6
          go_wp2_with fail
          go_ret
          exact retB_mk (HE.out.trans HB6.out.symm) HR1.out.below
end Go.Proofs.YtjbjpkhibcnenaaGreatDoor
