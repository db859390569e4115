/- bournelaw45.ClaimStores: the core. -/
import Derived.Test.YtepidpegoihllaaGreatDoorPTotal
import Derived.Test.YtepidpegoihllaaGreatDoorNPow
import Derived.Test.YtepidpegoihllaaGreatDoorCSmall
namespace Go.Proofs.YtepidpegoihllaaGreatDoor
open Go.RowKit
/-- the sum of the first k values -/
def accS (st : Int → Int) (k : Nat) : Int := ((List.range k).map fun j : Nat => st j).sum
theorem accS_succ (st : Int → Int) (k : Nat) : accS st (k + 1) = accS st k + st k := by
  unfold accS
  rw [List.range_succ, List.map_append, List.sum_append]
  simp
theorem accS_three (st : Int → Int) : accS st 3 = st 0 + st 1 + st 2 := by
  rw [accS_succ, accS_succ, accS_succ]
  simp [accS]
theorem accS_bd {st : Int → Int} (h : ∀ o, 0 ≤ st o ∧ st o ≤ 1125899906842624) : ∀ k : Nat, k ≤ 3 → 0 ≤ accS st k ∧ accS st k ≤ 3377699720527872 := fun k hk => by
  have h0 := h 0
  have h1 := h 1
  have h2 := h 2
  have hz : accS st 0 = 0 := by simp [accS]
  have hs : k = 0 ∨ k = 1 ∨ k = 2 ∨ k = 3 := by omega
  have e1 := accS_succ st 0
  have e2 := accS_succ st 1
  have e3 := accS_three st
  simp only [Int.natCast_zero, Int.natCast_one, Nat.zero_add, Nat.reduceAdd] at e1 e2
  rcases hs with rfl | rfl | rfl | rfl <;> omega
/-- the sum of a list of numbers that are not negative, from its first ones -/
theorem take_le {V : List Int} (h : ∀ x ∈ V, 0 ≤ x) (k : Nat) : 0 ≤ (V.take k).sum ∧ (V.take k).sum ≤ V.sum := by
  have e : V.sum = (V.take k).sum + (V.drop k).sum := by rw [← List.sum_append, List.take_append_drop]
  have h1 := sum_nonneg (p := V.take k) (fun x hx => h x (List.mem_of_mem_take hx))
  have h2 := sum_nonneg (p := V.drop k) (fun x hx => h x (List.mem_of_mem_drop hx))
  omega
theorem take_sum {V : List Int} {k : Nat} {x : Int} (h : V[k]? = some x) : (V.take (k + 1)).sum = (V.take k).sum + x := by
  rw [List.take_add_one, h, List.sum_append]
  simp
theorem rightS_of {b : BasinV} {s : StateV} (h : LitOk b.owners.length b.places.length s) (hl : s.own.length = b.places.length) : RightS b.owners.length (offs b) s.own s.queue := by
  obtain ⟨h1, h2, h3⟩ := h
  refine ⟨by rw [offs_len]; exact hl, fun p hp => ⟨by have := (h1 p hp).1; omega, (h1 p hp).2.1⟩, fun l hq => ⟨by rw [offs_len]; exact (h2 l hq).1, by have := (h2 l hq).2.1; omega, (h2 l hq).2.2.1⟩, ?_⟩
  rw [List.map_append, List.sum_append, List.map_map]
  exact h3
theorem offs_bd {b : BasinV} (h : ∀ y ∈ b.places, PlaceR b y) : ∀ o ∈ offs b, 0 ≤ o ∧ o < 3 := fun o ho => by
  unfold offs at ho
  obtain ⟨y, hy, rfl⟩ := List.mem_map.1 ho
  have := (h y hy).2.1
  omega
theorem ownerS_nonneg {n : Nat} {O : List Int} {own : List (List Int)} {q : List LoadV} (h : RightS n O own q) : ∀ x ∈ totalS n (own ++ q.map (fun l : LoadV => l.part)), 0 ≤ x := fun x hx => by
  unfold totalS at hx
  obtain ⟨i, -, rfl⟩ := List.mem_map.1 hx
  have hp := h.parts
  have e := ownerS_from i (own ++ q.map (fun l : LoadV => l.part)) 0 (by decide) (fun p hpp => (hp p hpp).2) (by have := h.sum; omega)
  unfold ownerS
  rw [e, Int.zero_add]
  refine sum_nonneg fun y hy => ?_
  obtain ⟨p, hpp, rfl⟩ := List.mem_map.1 hy
  rw [List.getD_eq_getElem?_getD]
  cases hg : p[i]? with
  | none => simp
  | some z => simpa using (hp p hpp).2 z (List.mem_of_getElem? hg)
set_option maxRecDepth 100000 in
set_option maxHeartbeats 8000000 in
theorem stores_core (b : BasinV) (p0 p1 p2 p3 p4 p5 p6 p7 : Option Addr) (q0 q1 q2 q3 q4 q5 q6 q7 : Nat) (s : StateV) (po pr pq pg pi pu : Option Addr) (qo qr qq qg qi qu : Nat) (i1 i2 : Int) (prev : ByteArray) (w : World) (hS : BasinS b p0 p1 p2 p3 p4 p5 p6 p7 q0 q1 q2 q3 q4 q5 q6 q7 w) (hnm : b.name.size ≤ maxLen) (hT : StateS s po pq qo qq w) (hM : LArg RInt 1 (.slice pr s.rem.length qr) s.rem w) (hG : LArg RGate 4 (.slice pg s.gates.length qg) s.gates w) (hI : LArg RInt 1 (.slice pi s.inn.length qi) s.inn w) (hU : LArg RInt 1 (.slice pu s.out.length qu) s.out w) (hg : Glob w) (hml : MLen w) :
    Calls Tryz.prog 3 #[.agg #[.string b.name, .slice p0 b.owners.length q0, .int .i64 b.cells, .slice p1 b.places.length q1, .slice p2 b.links.length q2, .slice p3 b.towns.length q3, .slice p4 b.gauges.length q4, .slice p5 b.roads.length q5, .slice p6 b.shelters.length q6, .slice p7 b.room.length q7, .int .i64 b.err], .agg #[.int .i64 s.hour, .slice po s.own.length qo, .slice pr s.rem.length qr, .slice pq s.queue.length qq, .slice pg s.gates.length qg, .slice pi s.inn.length qi, .slice pu s.out.length qu], .int .i64 i1, .int .i64 i2, .string prev] w fun e w' => e = .returned (.bool true) ∧ Below w.heap.size w w' := by
  have HS := Lib.hid hS
  have HNM := Lib.hid hnm
  have HT := Lib.hid hT
  have HM := Lib.hid hM
  have HG := Lib.hid hG
  have HI := Lib.hid hI
  have HU := Lib.hid hU
  have HGl := Lib.hid hg
  have HML := Lib.hid hml
  have s1 : (w.alloc (.cells #[.string b.name, .slice p0 b.owners.length q0, .int .i64 b.cells, .slice p1 b.places.length q1, .slice p2 b.links.length q2, .slice p3 b.towns.length q3, .slice p4 b.gauges.length q4, .slice p5 b.roads.length q5, .slice p6 b.shelters.length q6, .slice p7 b.room.length q7, .int .i64 b.err] 31)).heap.size = w.heap.size + 1 := by simp
  have HR : Hid (RowsS w [(w.heap.size, .cells #[.string b.name, .slice p0 b.owners.length q0, .int .i64 b.cells, .slice p1 b.places.length q1, .slice p2 b.links.length q2, .slice p3 b.towns.length q3, .slice p4 b.gauges.length q4, .slice p5 b.roads.length q5, .slice p6 b.shelters.length q6, .slice p7 b.room.length q7, .int .i64 b.err] 31), (w.heap.size + 1, .cells #[.int .i64 s.hour, .slice po s.own.length qo, .slice pr s.rem.length qr, .slice pq s.queue.length qq, .slice pg s.gates.length qg, .slice pi s.inn.length qi, .slice pu s.out.length qu] 36)] ((w.alloc (.cells #[.string b.name, .slice p0 b.owners.length q0, .int .i64 b.cells, .slice p1 b.places.length q1, .slice p2 b.links.length q2, .slice p3 b.towns.length q3, .slice p4 b.gauges.length q4, .slice p5 b.roads.length q5, .slice p6 b.shelters.length q6, .slice p7 b.room.length q7, .int .i64 b.err] 31)).alloc (.cells #[.int .i64 s.hour, .slice po s.own.length qo, .slice pr s.rem.length qr, .slice pq s.queue.length qq, .slice pg s.gates.length qg, .slice pi s.inn.length qi, .slice pu s.out.length qu] 36))) := Lib.hid (by
    have := ((RowsS.nil w).alloc (.cells #[.string b.name, .slice p0 b.owners.length q0, .int .i64 b.cells, .slice p1 b.places.length q1, .slice p2 b.links.length q2, .slice p3 b.towns.length q3, .slice p4 b.gauges.length q4, .slice p5 b.roads.length q5, .slice p6 b.shelters.length q6, .slice p7 b.room.length q7, .int .i64 b.err] 31)).alloc (.cells #[.int .i64 s.hour, .slice po s.own.length qo, .slice pr s.rem.length qr, .slice pq s.queue.length qq, .slice pg s.gates.length qg, .slice pi s.inn.length qi, .slice pu s.out.length qu] 36)
    rw [s1] at this
    exact this)
  clear hS hnm hT hM hG hI hU hg hml s1
  go_enter Tryz.func3, Tryz.ntmps3
  go_upto_region 1 with fail
  generalize ((w.alloc (.cells #[.string b.name, .slice p0 b.owners.length q0, .int .i64 b.cells, .slice p1 b.places.length q1, .slice p2 b.links.length q2, .slice p3 b.towns.length q3, .slice p4 b.gauges.length q4, .slice p5 b.roads.length q5, .slice p6 b.shelters.length q6, .slice p7 b.room.length q7, .int .i64 b.err] 31)).alloc (.cells #[.int .i64 s.hour, .slice po s.own.length qo, .slice pr s.rem.length qr, .slice pq s.queue.length qq, .slice pg s.gates.length qg, .slice pi s.inn.length qi, .slice pu s.out.length qu] 36)) = w0 at *
  go_wp2_with fail
  refine (small_any _ (HGl.out.below HR.out.below HGl.out.size) (HML.out.up HR.out.below)).mono ?_
  rintro e w1 ⟨rfl, hb1⟩
  have HR1 := Lib.hid (HR.out.step hb1)
  clear hb1 HR
  by_cases h0 : (6 : Int) < (b.places.length : Int)
  · have e0 : decide ((6 : Int) < (b.places.length : Int)) = true := decide_eq_true h0
    have z3 := HR1.out.cell 1 3 rfl rfl
    have b1 := HR1.out.cell 0 1 rfl rfl
    have b3 := HR1.out.cell 0 3 rfl rfl
    have b4 := HR1.out.cell 0 4 rfl rfl
    go_wp2_with fail
    go_ret
    exact ⟨rfl, HR1.out.below⟩
  · have e0 : decide ((6 : Int) < (b.places.length : Int)) = false := decide_eq_false h0
    by_cases h1 : (6 : Int) < (b.links.length : Int)
    · have e1 : decide ((6 : Int) < (b.links.length : Int)) = true := decide_eq_true h1
      have z3 := HR1.out.cell 1 3 rfl rfl
      have b1 := HR1.out.cell 0 1 rfl rfl
      have b3 := HR1.out.cell 0 3 rfl rfl
      have b4 := HR1.out.cell 0 4 rfl rfl
      go_wp2_with fail
      go_ret
      exact ⟨rfl, HR1.out.below⟩
    · have e1 : decide ((6 : Int) < (b.links.length : Int)) = false := decide_eq_false h1
      by_cases h2 : (4 : Int) < (b.owners.length : Int)
      · have e2 : decide ((4 : Int) < (b.owners.length : Int)) = true := decide_eq_true h2
        have z3 := HR1.out.cell 1 3 rfl rfl
        have b1 := HR1.out.cell 0 1 rfl rfl
        have b3 := HR1.out.cell 0 3 rfl rfl
        have b4 := HR1.out.cell 0 4 rfl rfl
        go_wp2_with fail
        go_ret
        exact ⟨rfl, HR1.out.below⟩
      · have e2 : decide ((4 : Int) < (b.owners.length : Int)) = false := decide_eq_false h2
        by_cases h3 : (12 : Int) < (s.queue.length : Int)
        · have e3 : decide ((12 : Int) < (s.queue.length : Int)) = true := decide_eq_true h3
          have z3 := HR1.out.cell 1 3 rfl rfl
          have b1 := HR1.out.cell 0 1 rfl rfl
          have b3 := HR1.out.cell 0 3 rfl rfl
          have b4 := HR1.out.cell 0 4 rfl rfl
          go_wp2_with fail
          go_ret
          exact ⟨rfl, HR1.out.below⟩
        · have e3 : decide ((12 : Int) < (s.queue.length : Int)) = false := decide_eq_false h3
          by_cases h4 : (100 : Int) < (prev.size : Int)
          · have e4 : decide ((100 : Int) < (prev.size : Int)) = true := decide_eq_true h4
            have z3 := HR1.out.cell 1 3 rfl rfl
            have b1 := HR1.out.cell 0 1 rfl rfl
            have b3 := HR1.out.cell 0 3 rfl rfl
            have b4 := HR1.out.cell 0 4 rfl rfl
            go_wp2_with fail
            go_ret
            exact ⟨rfl, HR1.out.below⟩
          · have e4 : decide ((100 : Int) < (prev.size : Int)) = false := decide_eq_false h4
            have z3 := HR1.out.cell 1 3 rfl rfl
            have b1 := HR1.out.cell 0 1 rfl rfl
            have b3 := HR1.out.cell 0 3 rfl rfl
            have b4 := HR1.out.cell 0 4 rfl rfl
            go_wp2_with (refine wpList_load_rowW (by first | (go_simp; done) | rfl) 31 _ rfl _ rfl 31 _ _ _ (HR1.out.row 0 rfl) undBaS rfl infoBaS ?_)
            refine (basin_right b p0 p1 p2 p3 p4 p5 p6 p7 q0 q1 q2 q3 q4 q5 q6 q7 _ (HS.out.below HR1.out.below) HNM.out).mono ?_
            rintro e w2 ⟨bb, hbb, rfl, hb2⟩
            have HR2 := Lib.hid (HR1.out.step hb2)
            clear hb2
            cases bb with
            | false =>
              clear hbb z3 b1 b3 b4
              go_wp2_with fail
              go_ret
              exact ⟨rfl, HR2.out.below⟩
            | true =>
              have HRB := Lib.hid (hbb rfl)
              clear hbb HR1 z3 b1 b3 b4
              go_wp2_with (first | (refine wpList_load_rowW (by first | (go_simp; done) | rfl) 31 _ rfl _ rfl 31 _ _ _ (HR2.out.row 0 rfl) undBaS rfl infoBaS ?_) | (refine wpList_load_rowW (by first | (go_simp; done) | rfl) 36 _ rfl _ rfl 36 _ _ _ (HR2.out.row 1 rfl) undStS rfl infoStS ?_))
              refine (stepRight_any b p0 p1 p2 p3 p4 p5 p6 p7 q0 q1 q2 q3 q4 q5 q6 q7 s po pr pq pg pi pu qo qr qq qg qi qu _ (HS.out.below HR2.out.below) (HT.out.below HR2.out.below) (HM.out.below stays_int HR2.out.below) (HG.out.below stays_Gate HR2.out.below) (HI.out.below stays_int HR2.out.below) (HU.out.below stays_int HR2.out.below) HRB.out.1).mono ?_
              rintro e w3 ⟨bb, hbb, rfl, hb3⟩
              have HR3 := Lib.hid (HR2.out.step hb3)
              clear hb3
              cases bb with
              | false =>
                clear hbb
                go_wp2_with fail
                go_ret
                exact ⟨rfl, HR3.out.below⟩
              | true =>
                have HLO := Lib.hid (hbb rfl)
                clear hbb HR2
                have HRS := Lib.hid (rightS_of HLO.out.1 HLO.out.2.1)
                have HST := Lib.hid (stores_law HRS.out (offs_bd HRB.out.2.1))
                have HPL : Hid (b.places.length ≤ 1000 ∧ s.own.length = b.places.length) := Lib.hid ⟨by have := HRB.out.1; unfold BasinLen at this; omega, HLO.out.2.1⟩
                go_upto_region 6 with fail
                go_loopw [12, 13] (fun sv iv wx => ∃ k : Nat, k ≤ 3 ∧ iv = .int .i64 k ∧ sv = .int .i64 (accS (storeS (offs b) s.own s.queue) k) ∧ RowsS w [(w.heap.size, .cells #[.string b.name, .slice p0 b.owners.length q0, .int .i64 b.cells, .slice p1 b.places.length q1, .slice p2 b.links.length q2, .slice p3 b.towns.length q3, .slice p4 b.gauges.length q4, .slice p5 b.roads.length q5, .slice p6 b.shelters.length q6, .slice p7 b.room.length q7, .int .i64 b.err] 31), (w.heap.size + 1, .cells #[.int .i64 s.hour, .slice po s.own.length qo, .slice pr s.rem.length qr, .slice pq s.queue.length qq, .slice pg s.gates.length qg, .slice pi s.inn.length qi, .slice pu s.out.length qu] 36)] wx) (fun _ iv _ => 3 - (Go.RowKit.intOf iv).toNat)
                case atStart => exact ⟨0, by omega, rfl, by simp [accS], HR3.out⟩
                case round =>
                  clear HR3
                  obtain ⟨k, hk, rfl, rfl, hr⟩ := hrel
                  have HR3 := Lib.hid hr
                  clear hr
                  obtain ⟨t, ht⟩ : ∃ t, t = accS (storeS (offs b) s.own s.queue) k := ⟨_, rfl⟩
                  have HTk := Lib.hid ht
                  have hbt : 0 ≤ t ∧ t ≤ 3377699720527872 := by rw [ht]; exact accS_bd HST.out.2.2 k hk
                  rw [← ht]
                  clear ht
                  by_cases hlt : k < 3
                  · have hlti : (k : Int) < 3 := by omega
                    obtain ⟨x, hx⟩ : ∃ x, x = storeS (offs b) s.own s.queue k := ⟨_, rfl⟩
                    have HX := Lib.hid hx.symm
                    have hbx : 0 ≤ x ∧ x ≤ 1125899906842624 := by rw [hx]; exact HST.out.2.2 k
                    have HTn : Hid (accS (storeS (offs b) s.own s.queue) (k + 1) = t + x) := Lib.hid (by rw [accS_succ, HTk.out, hx])
                    clear hx
                    have W1 : IntKind.i64.wrap (t + x) = t + x := IntWalk.i64_in _ (by omega)
                    have r6 : decide (x < 0) = false := decide_eq_false (by omega)
                    go_wp2_with (first | (refine wpList_load_rowW (by first | (go_simp; done) | rfl) 31 _ rfl _ rfl 31 _ _ _ (HR3.out.row 0 rfl) undBaS rfl infoBaS ?_) | (refine wpList_load_rowW (by first | (go_simp; done) | rfl) 36 _ rfl _ rfl 36 _ _ _ (HR3.out.row 1 rfl) undStS rfl infoStS ?_))
                    refine (make_any b p0 p1 p2 p3 p4 p5 p6 p7 q0 q1 q2 q3 q4 q5 q6 q7 s po pr pq pg pi pu qo qr qq qg qi qu (k : Int) i1 i2 prev _ (HS.out.l1.below stays_Place HR3.out.below) (HT.out.below HR3.out.below) (by omega) HPL.out.1 HPL.out.2).mono ?_
                    rintro e w3 ⟨rfl, hb⟩
                    rw [HX.out]
                    have HR4a := Lib.hid (((HR3.out.step hb).alloc (.cells #[.int .i64 (k : Int), .int .i64 s.hour, .int .i64 i1, .int .i64 i2, .int .i64 x, .string prev, .int .i64 0, .int .i64 0] 43)))
                    have c4 := HR4a.out.cell 2 4 rfl rfl
                    have z0 := HR4a.out.cell 1 0 rfl rfl
                    have s1 : (w3.alloc (.cells #[.int .i64 (k : Int), .int .i64 s.hour, .int .i64 i1, .int .i64 i2, .int .i64 x, .string prev, .int .i64 0, .int .i64 0] 43)).heap.size = w3.heap.size + 1 := by simp
                    go_upto_region 10 with fail
                    clear c4 z0 hb HR3
                    have HR4 : Hid (RowsS w [(w.heap.size, .cells #[.string b.name, .slice p0 b.owners.length q0, .int .i64 b.cells, .slice p1 b.places.length q1, .slice p2 b.links.length q2, .slice p3 b.towns.length q3, .slice p4 b.gauges.length q4, .slice p5 b.roads.length q5, .slice p6 b.shelters.length q6, .slice p7 b.room.length q7, .int .i64 b.err] 31), (w.heap.size + 1, .cells #[.int .i64 s.hour, .slice po s.own.length qo, .slice pr s.rem.length qr, .slice pq s.queue.length qq, .slice pg s.gates.length qg, .slice pi s.inn.length qi, .slice pu s.out.length qu] 36), (w3.heap.size, .cells #[.int .i64 (k : Int), .int .i64 s.hour, .int .i64 i1, .int .i64 i2, .int .i64 x, .string prev, .int .i64 0, .int .i64 0] 43), (w3.heap.size + 1, .cells #[.int .i64 (k : Int), .int .i64 s.hour, .int .i64 i1, .int .i64 i2, .int .i64 x, .string prev, .int .i64 0, .int .i64 0] 43)] ((w3.alloc (.cells #[.int .i64 (k : Int), .int .i64 s.hour, .int .i64 i1, .int .i64 i2, .int .i64 x, .string prev, .int .i64 0, .int .i64 0] 43)).alloc (.cells #[.int .i64 (k : Int), .int .i64 s.hour, .int .i64 i1, .int .i64 i2, .int .i64 x, .string prev, .int .i64 0, .int .i64 0] 43))) := Lib.hid (by
                      have := HR4a.out.alloc (.cells #[.int .i64 (k : Int), .int .i64 s.hour, .int .i64 i1, .int .i64 i2, .int .i64 x, .string prev, .int .i64 0, .int .i64 0] 43)
                      rw [s1] at this
                      exact this)
                    clear HR4a s1
                    generalize ((w3.alloc (.cells #[.int .i64 (k : Int), .int .i64 s.hour, .int .i64 i1, .int .i64 i2, .int .i64 x, .string prev, .int .i64 0, .int .i64 0] 43)).alloc (.cells #[.int .i64 (k : Int), .int .i64 s.hour, .int .i64 i1, .int .i64 i2, .int .i64 x, .string prev, .int .i64 0, .int .i64 0] 43)) = w4 at *
                    generalize w3.heap.size + 1 = bd at *
                    generalize w3.heap.size = bc at *
                    go_cut [97] (fun cv w5 => cv = .bool false ∧ RowsS w [(w.heap.size, .cells #[.string b.name, .slice p0 b.owners.length q0, .int .i64 b.cells, .slice p1 b.places.length q1, .slice p2 b.links.length q2, .slice p3 b.towns.length q3, .slice p4 b.gauges.length q4, .slice p5 b.roads.length q5, .slice p6 b.shelters.length q6, .slice p7 b.room.length q7, .int .i64 b.err] 31), (w.heap.size + 1, .cells #[.int .i64 s.hour, .slice po s.own.length qo, .slice pr s.rem.length qr, .slice pq s.queue.length qq, .slice pg s.gates.length qg, .slice pi s.inn.length qi, .slice pu s.out.length qu] 36), (bc, .cells #[.int .i64 (k : Int), .int .i64 s.hour, .int .i64 i1, .int .i64 i2, .int .i64 x, .string prev, .int .i64 0, .int .i64 0] 43), (bd, .cells #[.int .i64 (k : Int), .int .i64 s.hour, .int .i64 i1, .int .i64 i2, .int .i64 x, .string prev, .int .i64 0, .int .i64 0] 43)] w5)
                    case first =>
                      refine wp_region_noPanic ?_
                      refine wp_region_held_drew (S := fun cw => RowsS w [(w.heap.size, .cells #[.string b.name, .slice p0 b.owners.length q0, .int .i64 b.cells, .slice p1 b.places.length q1, .slice p2 b.links.length q2, .slice p3 b.towns.length q3, .slice p4 b.gauges.length q4, .slice p5 b.roads.length q5, .slice p6 b.shelters.length q6, .slice p7 b.room.length q7, .int .i64 b.err] 31), ((w.heap.size + 1), .cells #[.int .i64 s.hour, .slice po s.own.length qo, .slice pr s.rem.length qr, .slice pq s.queue.length qq, .slice pg s.gates.length qg, .slice pi s.inn.length qi, .slice pu s.out.length qu] 36), (bc, .cells #[.int .i64 k, .int .i64 s.hour, .int .i64 i1, .int .i64 i2, .int .i64 x, .string prev, .int .i64 0, .int .i64 0] 43), (bd, .cells #[.int .i64 k, .int .i64 s.hour, .int .i64 i1, .int .i64 i2, .int .i64 x, .string prev, .int .i64 0, .int .i64 0] 43)] cw) (by kernel_rfl) (HR4.out.drew) (fun hHeld => ?_)
                      refine tn 0 ?_ (hx := fun wz hSw => by refine exec_load_row 43 ?_ ?_ _ ?_ 43 _ _ _ (hSw.row 2 rfl) undClS rfl infoClS; rotate_left 1; exact rfl; exact rfl)
                      try simp only [Act.put, aL1, aL2, aL3]
                      refine tn 1 ?_ (hx := fun wz hSw => by refine exec_load_row 43 ?_ ?_ _ ?_ 43 _ _ _ (hSw.row 3 rfl) undClS rfl infoClS; rotate_left 1; exact rfl; exact rfl)
                      try simp only [Act.put, aL1, aL2, aL3]
                      refine tn 2 ?_ (hx := fun wz hSw => by refine (show _ = Result.ok (Next.value (.bool false)) wz from ?_); have h9 := eqC (k : Int) s.hour i1 i2 x prev 0 0 (k : Int) s.hour i1 i2 x prev 0 0 wz; go_simp; try simp)
                      try simp only [Act.put, aL1, aL2, aL3]
                      refine tn 3 ?_
                      try simp only [Act.put, aL1, aL2, aL3]
                      refine tn 4 ?_
                      try simp only [Act.put, aL1, aL2, aL3]
                      refine tn 5 ?_ (hx := fun wz hSw => by have e4 := hSw.cell 2 4 rfl rfl; go_simp; try with_reducible rfl)
                      try simp only [Act.put, aL1, aL2, aL3]
                      refine tn 6 ?_
                      try simp only [Act.put, aL1, aL2, aL3]
                      refine tn 7 ?_
                      try simp only [Act.put, aL1, aL2, aL3]
                      refine tn 8 ?_
                      try simp only [Act.put, aL1, aL2, aL3]
                      refine tn 9 ?_ (hx := fun wz hSw => by refine exec_load_row 43 ?_ ?_ _ ?_ 43 _ _ _ (hSw.row 2 rfl) undClS rfl infoClS; rotate_left 1; exact rfl; exact rfl)
                      try simp only [Act.put, aL1, aL2, aL3]
                      refine tn 10 ?_ (hx := fun wz hSw => by refine exec_load_row 31 ?_ ?_ _ ?_ 31 _ _ _ (hSw.row 0 rfl) undBaS rfl infoBaS; rotate_left 1; exact rfl; exact rfl)
                      try simp only [Act.put, aL1, aL2, aL3]
                      refine tn 11 ?_ (hx := fun wz hSw => by refine exec_load_row 36 ?_ ?_ _ ?_ 36 _ _ _ (hSw.row 1 rfl) undStS rfl infoStS; rotate_left 1; exact rfl; exact rfl)
                      try simp only [Act.put, aL1, aL2, aL3]
                      refine tn 12 ?_
                      try simp only [Act.put, aL1, aL2, aL3]
                      refine tn 13 ?_
                      try simp only [Act.put, aL1, aL2, aL3]
                      refine tn 14 ?_
                      try simp only [Act.put, aL1, aL2, aL3]
                      refine tn 15 ?_
                      try simp only [Act.put, aL1, aL2, aL3]
                      refine rd1 16 (fun K hK => ?_)
                      go_simp
                      refine ((rmake_any b p0 p1 p2 p3 p4 p5 p6 p7 q0 q1 q2 q3 q4 q5 q6 q7 s po pr pq pg pi pu qo qr qq qg qi qu (k : Int) i1 i2 prev _ (HS.out.l1.below stays_Place hHeld.below) (HT.out.below hHeld.below) (by omega) HPL.out.1 HPL.out.2)).mono ?_
                      rintro e w' ⟨rfl, hb⟩
                      rw [HX.out]
                      refine hK.out _ _ (hHeld.step hb) (fun hHeld => ?_)
                      clear hK K
                      try simp only [Act.put, aL1, aL2, aL3]
                      refine tn 17 ?_ (hx := fun wz hSw => by refine (show _ = Result.ok (Next.value (.bool false)) wz from ?_); have h9 := eqC (k : Int) s.hour i1 i2 x prev 0 0 (k : Int) s.hour i1 i2 x prev 0 0 wz; go_simp; try simp)
                      try simp only [Act.put, aL1, aL2, aL3]
                      refine tn 18 ?_
                      try simp only [Act.put, aL1, aL2, aL3]
                      refine rdone (NoPanic.normal ?_)
                      have HR5 := Lib.hid hHeld
                      go_wp2_with fail
                      go_meet
                      exact ⟨rfl, HR5.out⟩
                    obtain ⟨rfl, hcut⟩ := hcut
                    have HR5 := Lib.hid hcut
                    clear hcut HR4
                    have c4 := HR5.out.cell 2 4 rfl rfl
                    go_wp2_with fail
                    go_roundw
                    case rel => exact ⟨k + 1, by omega, by go_num, by rw [HTn.out], HR5.out.take 2⟩
                    case measure => simp [Go.RowKit.intOf]; omega
                  · obtain rfl : k = 3 := by omega
                    have ht3 : t = (totalS s.inn.length (s.own ++ s.queue.map (fun l : LoadV => l.part))).sum := by rw [HTk.out, accS_three, HLO.out.2.2]; exact HST.out.1
                    have H3 := Lib.hid HST.out.2.1
                    have HTn := Lib.hid ht3
                    clear ht3 HTk hlt hk
                    go_wp2_with (refine wpList_load_rowW (by first | (go_simp; done) | rfl) 36 _ rfl _ rfl 36 _ _ _ (HR3.out.row 1 rfl) undStS rfl infoStS ?_)
                    refine (stepTotal_any s po pr pq pg pi pu qo qr qq qg qi qu _ (HT.out.below HR3.out.below) (by have h1 := HRB.out.1; have h2 := HLO.out.2.2; unfold BasinLen at h1; omega) (fun p hp => by rw [HLO.out.2.2]; exact (HRS.out.hown p hp).1) (fun l hl => by rw [HLO.out.2.2]; exact (HRS.out.que l hl).2.1)).mono ?_
                    rintro e w3 ⟨g, rfl, hr3⟩
                    have hv0 := ownerS_nonneg HRS.out
                    rw [← HLO.out.2.2] at hv0
                    have hsm := take_le hv0
                    have hvl := totalS_len s.inn.length (s.own ++ s.queue.map (fun l : LoadV => l.part))
                    have HR4 := Lib.hid (HR3.out.step hr3.below)
                    have HG4 := Lib.hid (hr3.rows 0 _ rfl)
                    have hin : s.inn.length ≤ 1000 := by have h1 := HRB.out.1; have h2 := HLO.out.2.2; unfold BasinLen at h1; omega
                    obtain ⟨V, hV⟩ : ∃ V, V = totalS s.inn.length (s.own ++ s.queue.map (fun l : LoadV => l.part)) := ⟨_, rfl⟩
                    rw [← hV] at HG4 hsm hvl HTn hv0
                    have HV0 := Lib.hid hv0
                    have HSM := Lib.hid hsm
                    have HVL := Lib.hid hvl
                    clear hsm hvl hr3 hV HR3 hv0
                    go_upto_region 15 with fail
                    rename World => wz
                    go_loopw [12, 17] (fun sv iv wx => ∃ k : Nat, k ≤ s.inn.length ∧ iv = .int .i64 k ∧ sv = .int .i64 (t - (V.take k).sum) ∧ RowsS w [(w.heap.size, .cells #[.string b.name, .slice p0 b.owners.length q0, .int .i64 b.cells, .slice p1 b.places.length q1, .slice p2 b.links.length q2, .slice p3 b.towns.length q3, .slice p4 b.gauges.length q4, .slice p5 b.roads.length q5, .slice p6 b.shelters.length q6, .slice p7 b.room.length q7, .int .i64 b.err] 31), (w.heap.size + 1, .cells #[.int .i64 s.hour, .slice po s.own.length qo, .slice pr s.rem.length qr, .slice pq s.queue.length qq, .slice pg s.gates.length qg, .slice pi s.inn.length qi, .slice pu s.out.length qu] 36)] wx ∧ wx.heap[g]? = some (.cells (i64v V) 3 (0, 0))) (fun _ iv _ => s.inn.length - (Go.RowKit.intOf iv).toNat)
                    case atStart => exact ⟨0, Nat.zero_le _, rfl, by simp, HR4.out, HG4.out⟩
                    case round =>
                      clear HR4 HG4
                      obtain ⟨k, hk, rfl, rfl, hr, hgz⟩ := hrel
                      have HR4 := Lib.hid hr
                      have HG4 := Lib.hid hgz
                      clear hr hgz
                      obtain ⟨u, hu⟩ : ∃ u, u = t - (V.take k).sum := ⟨_, rfl⟩
                      have HUk := Lib.hid hu
                      have hbu : 0 ≤ u ∧ u ≤ 3377699720527872 := by
                        have h1 := HSM.out k
                        have h2 := HTn.out
                        omega
                      rw [← hu]
                      clear hu
                      by_cases hlt : k < s.inn.length
                      · have hlti : (k : Int) < (s.inn.length : Int) := by omega
                        obtain ⟨x, hx⟩ : ∃ x, V[k]? = some x := ⟨_, List.getElem?_eq_getElem (by rw [HVL.out]; exact hlt)⟩
                        have HUn : Hid (t - (V.take (k + 1)).sum = u - x) := Lib.hid (by rw [take_sum hx, HUk.out]; omega)
                        have hbx : 0 ≤ u - x := by
                          have h1 := HSM.out (k + 1)
                          have h2 := HTn.out
                          have h3 := HUn.out
                          omega
                        have hbx2 : 0 ≤ x := by
                          have h1 := (HSM.out (k + 1)).1
                          have h4 := take_sum hx
                          have h5 : x ∈ V := List.mem_of_getElem? hx
                          exact HV0.out x h5
                        have cg : wr.cell? ⟨g, k, none⟩ = some (.int .i64 x) := (cell_of_row _ _ _ _ _ _ HG4.out).trans (i64v_get hx)
                        have W1 : IntKind.i64.wrap (u - x) = u - x := IntWalk.i64_in _ (by omega)
                        clear hx
                        go_wp2_with fail
                        go_roundw
                        case rel => exact ⟨k + 1, by omega, by go_num, by rw [HUn.out], HR4.out, HG4.out⟩
                        case measure => simp [Go.RowKit.intOf]; omega
                      · obtain rfl : k = s.inn.length := by omega
                        have hu0 : u = 0 := by
                          have h1 := HUk.out
                          rw [← HVL.out, List.take_length, HTn.out] at h1
                          omega
                        subst hu0
                        clear hlt hk hbu HUk
                        go_wp2_with (first | (refine wpList_load_rowW (by first | (go_simp; done) | rfl) 31 _ rfl _ rfl 31 _ _ _ (HR4.out.row 0 rfl) undBaS rfl infoBaS ?_) | (refine wpList_load_rowW (by first | (go_simp; done) | rfl) 36 _ rfl _ rfl 36 _ _ _ (HR4.out.row 1 rfl) undStS rfl infoStS ?_))
                        refine (make_any b p0 p1 p2 p3 p4 p5 p6 p7 q0 q1 q2 q3 q4 q5 q6 q7 s po pr pq pg pi pu qo qr qq qg qi qu 3 i1 i2 prev _ (HS.out.l1.below stays_Place HR4.out.below) (HT.out.below HR4.out.below) (by omega) HPL.out.1 HPL.out.2).mono ?_
                        rintro e w4 ⟨rfl, hb⟩
                        rw [H3.out]
                        have HR5 := Lib.hid (((HR4.out.step hb).alloc (.cells #[.int .i64 3, .int .i64 s.hour, .int .i64 i1, .int .i64 i2, .int .i64 0, .string prev, .int .i64 0, .int .i64 0] 43)))
                        have c4 := HR5.out.cell 2 4 rfl rfl
                        go_wp2_with fail
                        go_ret
                        exact ⟨rfl, HR5.out.below⟩
end Go.Proofs.YtepidpegoihllaaGreatDoor

