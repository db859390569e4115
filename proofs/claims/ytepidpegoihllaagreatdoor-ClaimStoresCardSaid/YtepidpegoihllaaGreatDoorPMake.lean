/- claim.Make and the reference's. -/
import Derived.Test.YtepidpegoihllaaGreatDoorPUnder
namespace Go.Proofs.YtepidpegoihllaaGreatDoor
open Go.RowKit
theorem undClS : Tryz.prog.underlying 43 = some (.struct (Tryz.prog.fieldsOf 43)) := by kernel_rfl
theorem infoClS : (Tryz.prog.info? 43).map (·.size) = some 8 := by kernel_rfl
theorem undBaS : Tryz.prog.underlying 31 = some (.struct (Tryz.prog.fieldsOf 31)) := by kernel_rfl
theorem infoBaS : (Tryz.prog.info? 31).map (·.size) = some 11 := by kernel_rfl
theorem ownW_at {O : List Int} {own : List (List Int)} {k : Nat} {p : List Int} {x : Int} (h1 : own[k]? = some p) (h2 : O[k]? = some x) : (ownW O own)[k]? = some (totS p, x) := by
  unfold ownW
  rw [List.getElem?_map, (List.getElem?_zip_eq_some (z := (p, x))).2 ⟨h1, h2⟩]
  rfl
theorem ownW_len {O : List Int} {own : List (List Int)} (h : own.length = O.length) : (ownW O own).length = own.length := by unfold ownW; rw [List.length_map, List.length_zip]; omega
theorem offs_len (b : BasinV) : (offs b).length = b.places.length := by unfold offs; rw [List.length_map]
/-- a state's water in memory -/
structure StateS (s : StateV) (po pq : Option Addr) (qo qq : Nat) (w : World) : Prop where
  lo : LArg (RList RInt 1) 1 (.slice po s.own.length qo) s.own w
  lq : LArg RLoad 3 (.slice pq s.queue.length qq) s.queue w
theorem StateS.below {s : StateV} {po pq : Option Addr} {qo qq : Nat} {w w' : World} (h : StateS s po pq qo qq w) (hb : Below w.heap.size w w') : StateS s po pq qo qq w' := ⟨h.lo.below (stays_list stays_int 1) hb, h.lq.below stays_Load hb⟩
set_option maxRecDepth 100000 in
set_option maxHeartbeats 8000000 in
theorem make_any (b : BasinV) (p0 p1 p2 p3 p4 p5 p6 p7 : Option Addr) (q0 q1 q2 q3 q4 q5 q6 q7 : Nat) (s : StateV) (po pr pq pg pi pu : Option Addr) (qo qr qq qg qi qu : Nat) (o i1 i2 : Int) (prev : ByteArray) (w : World) (hS : LArg RPlace 12 (.slice p1 b.places.length q1) b.places w) (hT : StateS s po pq qo qq w) (ho : 0 ≤ o) (hpl : b.places.length ≤ 1000) (hlen : s.own.length = b.places.length) :
    Calls Tryz.prog 7 #[.agg #[.string b.name, .slice p0 b.owners.length q0, .int .i64 b.cells, .slice p1 b.places.length q1, .slice p2 b.links.length q2, .slice p3 b.towns.length q3, .slice p4 b.gauges.length q4, .slice p5 b.roads.length q5, .slice p6 b.shelters.length q6, .slice p7 b.room.length q7, .int .i64 b.err], .agg #[.int .i64 s.hour, .slice po s.own.length qo, .slice pr s.rem.length qr, .slice pq s.queue.length qq, .slice pg s.gates.length qg, .slice pi s.inn.length qi, .slice pu s.out.length qu], .int .i64 o, .int .i64 i1, .int .i64 i2, .string prev] w fun e w' => e = .returned (.agg #[.int .i64 o, .int .i64 s.hour, .int .i64 i1, .int .i64 i2, .int .i64 (storeS (offs b) s.own s.queue o), .string prev, .int .i64 0, .int .i64 0]) ∧ Below w.heap.size w w' := by
  obtain ⟨zz, hzz⟩ : ∃ zz, zz = storeS (offs b) s.own s.queue o := ⟨_, rfl⟩
  rw [← hzz]
  have HZZ := Lib.hid hzz
  clear hzz
  have HT := Lib.hid hT
  have HS := Lib.hid hS
  have HOo := Lib.hid ho
  have HLn : Hid (s.own.length = (offs b).length) := Lib.hid (by rw [offs_len]; exact hlen)
  have HLn2 := Lib.hid hlen
  have hol : s.own.length ≤ 1000 := by omega
  have s1 : (w.alloc (.cells #[.string b.name, .slice p0 b.owners.length q0, .int .i64 b.cells, .slice p1 b.places.length q1, .slice p2 b.links.length q2, .slice p3 b.towns.length q3, .slice p4 b.gauges.length q4, .slice p5 b.roads.length q5, .slice p6 b.shelters.length q6, .slice p7 b.room.length q7, .int .i64 b.err] 31)).heap.size = w.heap.size + 1 := by simp
  have s2 : ((w.alloc (.cells #[.string b.name, .slice p0 b.owners.length q0, .int .i64 b.cells, .slice p1 b.places.length q1, .slice p2 b.links.length q2, .slice p3 b.towns.length q3, .slice p4 b.gauges.length q4, .slice p5 b.roads.length q5, .slice p6 b.shelters.length q6, .slice p7 b.room.length q7, .int .i64 b.err] 31)).alloc (.cells #[.int .i64 s.hour, .slice po s.own.length qo, .slice pr s.rem.length qr, .slice pq s.queue.length qq, .slice pg s.gates.length qg, .slice pi s.inn.length qi, .slice pu s.out.length qu] 36)).heap.size = w.heap.size + 1 + 1 := by simp
  have HR : Hid (RowsS w [(w.heap.size, .cells #[.string b.name, .slice p0 b.owners.length q0, .int .i64 b.cells, .slice p1 b.places.length q1, .slice p2 b.links.length q2, .slice p3 b.towns.length q3, .slice p4 b.gauges.length q4, .slice p5 b.roads.length q5, .slice p6 b.shelters.length q6, .slice p7 b.room.length q7, .int .i64 b.err] 31), ((w.heap.size + 1), .cells #[.int .i64 s.hour, .slice po s.own.length qo, .slice pr s.rem.length qr, .slice pq s.queue.length qq, .slice pg s.gates.length qg, .slice pi s.inn.length qi, .slice pu s.out.length qu] 36), ((w.heap.size + 1 + 1), .cells #[.int .i64 0, .int .i64 0, .int .i64 0, .int .i64 0, .int .i64 0, .string ⟨#[]⟩, .int .i64 0, .int .i64 0] 43)] (((w.alloc (.cells #[.string b.name, .slice p0 b.owners.length q0, .int .i64 b.cells, .slice p1 b.places.length q1, .slice p2 b.links.length q2, .slice p3 b.towns.length q3, .slice p4 b.gauges.length q4, .slice p5 b.roads.length q5, .slice p6 b.shelters.length q6, .slice p7 b.room.length q7, .int .i64 b.err] 31)).alloc (.cells #[.int .i64 s.hour, .slice po s.own.length qo, .slice pr s.rem.length qr, .slice pq s.queue.length qq, .slice pg s.gates.length qg, .slice pi s.inn.length qi, .slice pu s.out.length qu] 36)).alloc (.cells #[.int .i64 0, .int .i64 0, .int .i64 0, .int .i64 0, .int .i64 0, .string ⟨#[]⟩, .int .i64 0, .int .i64 0] 43))) := Lib.hid (by
    have := (((RowsS.nil w).alloc (.cells #[.string b.name, .slice p0 b.owners.length q0, .int .i64 b.cells, .slice p1 b.places.length q1, .slice p2 b.links.length q2, .slice p3 b.towns.length q3, .slice p4 b.gauges.length q4, .slice p5 b.roads.length q5, .slice p6 b.shelters.length q6, .slice p7 b.room.length q7, .int .i64 b.err] 31)).alloc (.cells #[.int .i64 s.hour, .slice po s.own.length qo, .slice pr s.rem.length qr, .slice pq s.queue.length qq, .slice pg s.gates.length qg, .slice pi s.inn.length qi, .slice pu s.out.length qu] 36)).alloc (.cells #[.int .i64 0, .int .i64 0, .int .i64 0, .int .i64 0, .int .i64 0, .string ⟨#[]⟩, .int .i64 0, .int .i64 0] 43)
    rw [s1, s2] at this
    exact this)
  clear hT hS ho hlen s1 s2
  go_enter Tryz.func7, Tryz.ntmps7
  go_upto_region 1 with fail
  generalize (((w.alloc (.cells #[.string b.name, .slice p0 b.owners.length q0, .int .i64 b.cells, .slice p1 b.places.length q1, .slice p2 b.links.length q2, .slice p3 b.towns.length q3, .slice p4 b.gauges.length q4, .slice p5 b.roads.length q5, .slice p6 b.shelters.length q6, .slice p7 b.room.length q7, .int .i64 b.err] 31)).alloc (.cells #[.int .i64 s.hour, .slice po s.own.length qo, .slice pr s.rem.length qr, .slice pq s.queue.length qq, .slice pg s.gates.length qg, .slice pi s.inn.length qi, .slice pu s.out.length qu] 36)).alloc (.cells #[.int .i64 0, .int .i64 0, .int .i64 0, .int .i64 0, .int .i64 0, .string ⟨#[]⟩, .int .i64 0, .int .i64 0] 43)) = w0 at *
  have z1 := HR.out.cell 1 1 rfl rfl
  go_upto_region 3 with fail
  clear z1
  go_loopw [13, 19] (fun sv iv wx => ∃ k : Nat, k ≤ s.own.length ∧ iv = .int .i64 k ∧ sv = .int .i64 (foldS ((ownW (offs b) s.own).take k) o) ∧ RowsS w [(w.heap.size, .cells #[.string b.name, .slice p0 b.owners.length q0, .int .i64 b.cells, .slice p1 b.places.length q1, .slice p2 b.links.length q2, .slice p3 b.towns.length q3, .slice p4 b.gauges.length q4, .slice p5 b.roads.length q5, .slice p6 b.shelters.length q6, .slice p7 b.room.length q7, .int .i64 b.err] 31), ((w.heap.size + 1), .cells #[.int .i64 s.hour, .slice po s.own.length qo, .slice pr s.rem.length qr, .slice pq s.queue.length qq, .slice pg s.gates.length qg, .slice pi s.inn.length qi, .slice pu s.out.length qu] 36), ((w.heap.size + 1 + 1), .cells #[.int .i64 0, .int .i64 0, .int .i64 0, .int .i64 0, .int .i64 0, .string ⟨#[]⟩, .int .i64 0, .int .i64 0] 43)] wx) (fun _ iv _ => s.own.length - (Go.RowKit.intOf iv).toNat)
  case atStart => exact ⟨0, Nat.zero_le _, rfl, rfl, HR.out⟩
  case round =>
    obtain ⟨k, hk, rfl, rfl, hr⟩ := hrel
    have HR1 := Lib.hid hr
    clear hr HR
    obtain ⟨t, ht⟩ : ∃ t, t = foldS ((ownW (offs b) s.own).take k) o := ⟨_, rfl⟩
    have HSv := Lib.hid ht.symm
    have HSb : Hid (I64 t) := Lib.hid (by rw [ht]; exact foldS_bd _ _)
    rw [← ht]
    clear ht
    have z1 := HR1.out.cell 1 1 rfl rfl
    have b3 := HR1.out.cell 0 3 rfl rfl
    by_cases hlt : k < s.own.length
    · have hko : k < s.own.length := by have := HLn2.out; omega
      have hkp : k < b.places.length := by have := HLn2.out; omega
      have hkoi : (k : Int) < (s.own.length : Int) := by omega
      have hkpi : (k : Int) < (b.places.length : Int) := by omega
      obtain ⟨p, hp⟩ : ∃ p, s.own[k]? = some p := ⟨_, List.getElem?_eq_getElem hko⟩
      obtain ⟨x, hx⟩ : ∃ x, b.places[k]? = some x := ⟨_, List.getElem?_eq_getElem hkp⟩
      obtain ⟨bo, oo, cs, rfl, hbo, -, hro, vp, rfl, hpart⟩ := HT.out.lo.at hp
      obtain ⟨ap, cp, rfl, -, -⟩ := hpart.slice
      have HPt := Lib.hid hpart
      obtain ⟨bp, op, cs, rfl, hbp, -, hrp, u0, u1, u2, rfl, -⟩ := HS.out.at hx
      have cW : wr.cell? ⟨bo, oo + k, none⟩ = some (.slice ap p.length cp) := by
        have := (rangeAt_below hro HR1.out.below hbo) 0 _ rfl
        rw [Nat.mul_one, Nat.add_zero] at this
        exact this
      have cO : wr.cell? ⟨bp, op + k * 12 + 2, none⟩ = some (.int .i64 x.office) := (rangeAt_below hrp HR1.out.below hbp) 2 _ rfl
      have HW := Lib.hid (ownW_at hp (offs_at hx))
      clear hpart hro hrp hp hx
      by_cases h3 : x.office = o
      · have q3 : (x.office == o) = true := by rw [beq_iff_eq]; exact h3
        have HN : Hid (foldS ((ownW (offs b) s.own).take (k + 1)) o = addS t (totS p)) := Lib.hid (by rw [foldS_snoc HW.out, HSv.out]; exact if_pos h3)
        obtain ⟨y, hy⟩ : ∃ y, y = totS p := ⟨_, rfl⟩
        have HY := Lib.hid hy
        have HYb : Hid (I64 y) := Lib.hid (by rw [hy]; exact totS_bd _)
        rw [← hy] at HN
        clear h3 hy
        go_wp2_with fail
        refine (total_any p _ _ (HPt.out.below stays_int HR1.out.below)).mono ?_
        rintro e w3 ⟨rfl, rfl⟩
        rw [← HY.out]
        go_wp2_with fail
        refine (add_any t y _ HSb.out HYb.out).mono ?_
        rintro e w4 ⟨rfl, rfl⟩
        go_wp2_with fail
        go_roundw
        case rel => exact ⟨k + 1, by omega, by go_num, by rw [HN.out], HR1.out⟩
        case measure => simp [Go.RowKit.intOf]; omega
      · have q3 : (x.office == o) = false := by rw [beq_eq_false_iff_ne]; exact h3
        have HN : Hid (foldS ((ownW (offs b) s.own).take (k + 1)) o = t) := Lib.hid (by rw [foldS_snoc HW.out, HSv.out]; exact if_neg h3)
        go_wp2_with fail
        go_roundw
        case rel => exact ⟨k + 1, by omega, by go_num, by rw [HN.out], HR1.out⟩
        case measure => simp [Go.RowKit.intOf]; omega
    · obtain rfl : k = s.own.length := by omega
      have HE : Hid (t = foldS (ownW (offs b) s.own) o) := Lib.hid (by rw [← HSv.out, ← ownW_len HLn.out, List.take_length])
      obtain ⟨u, hu⟩ : ∃ u, u = foldS (queW (offs b) s.queue) o := ⟨_, rfl⟩
      have HU := Lib.hid hu
      have HUb : Hid (I64 u) := Lib.hid (by rw [hu]; exact foldS_bd _ _)
      have HZ : Hid (addS t u = zz) := Lib.hid (by rw [HZZ.out, HE.out, hu]; rfl)
      have z3 := HR1.out.cell 1 3 rfl rfl
      clear hlt hk hu
      go_wp2_with (refine wpList_load_rowW (by first | (go_simp; done) | rfl) 31 _ rfl _ rfl 31 _ _ _ (HR1.out.row 0 rfl) undBaS rfl infoBaS ?_)
      refine (underK_any b p0 p1 p2 p3 p4 p5 p6 p7 q0 q1 q2 q3 q4 q5 q6 q7 s.queue _ o _ (HS.out.below stays_Place HR1.out.below) (HT.out.lq.below stays_Load HR1.out.below) HOo.out hpl).mono ?_
      rintro e w5 ⟨rfl, hb⟩
      rw [← HU.out]
      have HR5 := Lib.hid (HR1.out.step hb)
      clear hb z1 b3 z3 HR1
      go_wp2_with fail
      refine (add_any t u _ HSb.out HUb.out).mono ?_
      rintro e w6 ⟨rfl, rfl⟩
      rw [HZ.out]
      have z0 := HR5.out.cell 1 0 rfl rfl
      go_wp2_with (refine wpList_store_row rfl 43 _ _ rfl (w.heap.size + 1 + 1) #[.int .i64 o, .int .i64 s.hour, .int .i64 i1, .int .i64 i2, .int .i64 zz, .string prev, .int .i64 0, .int .i64 0] rfl rfl 43 #[.int .i64 0, .int .i64 0, .int .i64 0, .int .i64 0, .int .i64 0, .string ⟨#[]⟩, .int .i64 0, .int .i64 0] (HR5.out.row 2 rfl) infoClS rfl (by simp [Value.oneCell']) ?_)
      have HRZ := Lib.hid (HR5.out.set (i := 2) (cs' := #[.int .i64 o, .int .i64 s.hour, .int .i64 i1, .int .i64 i2, .int .i64 zz, .string prev, .int .i64 0, .int .i64 0]) rfl)
      exact bodyPost_ret (v := .agg #[.int .i64 o, .int .i64 s.hour, .int .i64 i1, .int .i64 i2, .int .i64 zz, .string prev, .int .i64 0, .int .i64 0]) (results_cell_row rfl _ _ (w.heap.size + 1 + 1) 43 #[.int .i64 o, .int .i64 s.hour, .int .i64 i1, .int .i64 i2, .int .i64 zz, .string prev, .int .i64 0, .int .i64 0] (0, 0) _ rfl (HRZ.out.row 2 rfl) undClS rfl infoClS) rfl ⟨rfl, HRZ.out.below⟩
set_option maxRecDepth 100000 in
set_option maxHeartbeats 8000000 in
theorem rmake_any (b : BasinV) (p0 p1 p2 p3 p4 p5 p6 p7 : Option Addr) (q0 q1 q2 q3 q4 q5 q6 q7 : Nat) (s : StateV) (po pr pq pg pi pu : Option Addr) (qo qr qq qg qi qu : Nat) (o i1 i2 : Int) (prev : ByteArray) (w : World) (hS : LArg RPlace 12 (.slice p1 b.places.length q1) b.places w) (hT : StateS s po pq qo qq w) (ho : 0 ≤ o) (hpl : b.places.length ≤ 1000) (hlen : s.own.length = b.places.length) :
    Calls Tryz.prog 8 #[.agg #[.string b.name, .slice p0 b.owners.length q0, .int .i64 b.cells, .slice p1 b.places.length q1, .slice p2 b.links.length q2, .slice p3 b.towns.length q3, .slice p4 b.gauges.length q4, .slice p5 b.roads.length q5, .slice p6 b.shelters.length q6, .slice p7 b.room.length q7, .int .i64 b.err], .agg #[.int .i64 s.hour, .slice po s.own.length qo, .slice pr s.rem.length qr, .slice pq s.queue.length qq, .slice pg s.gates.length qg, .slice pi s.inn.length qi, .slice pu s.out.length qu], .int .i64 o, .int .i64 i1, .int .i64 i2, .string prev] w fun e w' => e = .returned (.agg #[.int .i64 o, .int .i64 s.hour, .int .i64 i1, .int .i64 i2, .int .i64 (storeS (offs b) s.own s.queue o), .string prev, .int .i64 0, .int .i64 0]) ∧ Below w.heap.size w w' := by
  obtain ⟨zz, hzz⟩ : ∃ zz, zz = storeS (offs b) s.own s.queue o := ⟨_, rfl⟩
  rw [← hzz]
  have HZZ := Lib.hid hzz
  clear hzz
  have HT := Lib.hid hT
  have HS := Lib.hid hS
  have HOo := Lib.hid ho
  have HLn : Hid (s.own.length = (offs b).length) := Lib.hid (by rw [offs_len]; exact hlen)
  have HLn2 := Lib.hid hlen
  have hol : s.own.length ≤ 1000 := by omega
  have s1 : (w.alloc (.cells #[.string b.name, .slice p0 b.owners.length q0, .int .i64 b.cells, .slice p1 b.places.length q1, .slice p2 b.links.length q2, .slice p3 b.towns.length q3, .slice p4 b.gauges.length q4, .slice p5 b.roads.length q5, .slice p6 b.shelters.length q6, .slice p7 b.room.length q7, .int .i64 b.err] 31)).heap.size = w.heap.size + 1 := by simp
  have s2 : ((w.alloc (.cells #[.string b.name, .slice p0 b.owners.length q0, .int .i64 b.cells, .slice p1 b.places.length q1, .slice p2 b.links.length q2, .slice p3 b.towns.length q3, .slice p4 b.gauges.length q4, .slice p5 b.roads.length q5, .slice p6 b.shelters.length q6, .slice p7 b.room.length q7, .int .i64 b.err] 31)).alloc (.cells #[.int .i64 s.hour, .slice po s.own.length qo, .slice pr s.rem.length qr, .slice pq s.queue.length qq, .slice pg s.gates.length qg, .slice pi s.inn.length qi, .slice pu s.out.length qu] 36)).heap.size = w.heap.size + 1 + 1 := by simp
  have HR : Hid (RowsS w [(w.heap.size, .cells #[.string b.name, .slice p0 b.owners.length q0, .int .i64 b.cells, .slice p1 b.places.length q1, .slice p2 b.links.length q2, .slice p3 b.towns.length q3, .slice p4 b.gauges.length q4, .slice p5 b.roads.length q5, .slice p6 b.shelters.length q6, .slice p7 b.room.length q7, .int .i64 b.err] 31), ((w.heap.size + 1), .cells #[.int .i64 s.hour, .slice po s.own.length qo, .slice pr s.rem.length qr, .slice pq s.queue.length qq, .slice pg s.gates.length qg, .slice pi s.inn.length qi, .slice pu s.out.length qu] 36), ((w.heap.size + 1 + 1), .cells #[.int .i64 0, .int .i64 0, .int .i64 0, .int .i64 0, .int .i64 0, .string ⟨#[]⟩, .int .i64 0, .int .i64 0] 43)] (((w.alloc (.cells #[.string b.name, .slice p0 b.owners.length q0, .int .i64 b.cells, .slice p1 b.places.length q1, .slice p2 b.links.length q2, .slice p3 b.towns.length q3, .slice p4 b.gauges.length q4, .slice p5 b.roads.length q5, .slice p6 b.shelters.length q6, .slice p7 b.room.length q7, .int .i64 b.err] 31)).alloc (.cells #[.int .i64 s.hour, .slice po s.own.length qo, .slice pr s.rem.length qr, .slice pq s.queue.length qq, .slice pg s.gates.length qg, .slice pi s.inn.length qi, .slice pu s.out.length qu] 36)).alloc (.cells #[.int .i64 0, .int .i64 0, .int .i64 0, .int .i64 0, .int .i64 0, .string ⟨#[]⟩, .int .i64 0, .int .i64 0] 43))) := Lib.hid (by
    have := (((RowsS.nil w).alloc (.cells #[.string b.name, .slice p0 b.owners.length q0, .int .i64 b.cells, .slice p1 b.places.length q1, .slice p2 b.links.length q2, .slice p3 b.towns.length q3, .slice p4 b.gauges.length q4, .slice p5 b.roads.length q5, .slice p6 b.shelters.length q6, .slice p7 b.room.length q7, .int .i64 b.err] 31)).alloc (.cells #[.int .i64 s.hour, .slice po s.own.length qo, .slice pr s.rem.length qr, .slice pq s.queue.length qq, .slice pg s.gates.length qg, .slice pi s.inn.length qi, .slice pu s.out.length qu] 36)).alloc (.cells #[.int .i64 0, .int .i64 0, .int .i64 0, .int .i64 0, .int .i64 0, .string ⟨#[]⟩, .int .i64 0, .int .i64 0] 43)
    rw [s1, s2] at this
    exact this)
  clear hT hS ho hlen s1 s2
  go_enter Tryz.func8, Tryz.ntmps8
  go_upto_region 1 with fail
  generalize (((w.alloc (.cells #[.string b.name, .slice p0 b.owners.length q0, .int .i64 b.cells, .slice p1 b.places.length q1, .slice p2 b.links.length q2, .slice p3 b.towns.length q3, .slice p4 b.gauges.length q4, .slice p5 b.roads.length q5, .slice p6 b.shelters.length q6, .slice p7 b.room.length q7, .int .i64 b.err] 31)).alloc (.cells #[.int .i64 s.hour, .slice po s.own.length qo, .slice pr s.rem.length qr, .slice pq s.queue.length qq, .slice pg s.gates.length qg, .slice pi s.inn.length qi, .slice pu s.out.length qu] 36)).alloc (.cells #[.int .i64 0, .int .i64 0, .int .i64 0, .int .i64 0, .int .i64 0, .string ⟨#[]⟩, .int .i64 0, .int .i64 0] 43)) = w0 at *
  have z1 := HR.out.cell 1 1 rfl rfl
  go_upto_region 3 with fail
  clear z1
  go_loopw [13, 14] (fun sv iv wx => ∃ k : Nat, k ≤ b.places.length ∧ iv = .int .i64 k ∧ sv = .int .i64 (foldS ((ownW (offs b) s.own).take k) o) ∧ RowsS w [(w.heap.size, .cells #[.string b.name, .slice p0 b.owners.length q0, .int .i64 b.cells, .slice p1 b.places.length q1, .slice p2 b.links.length q2, .slice p3 b.towns.length q3, .slice p4 b.gauges.length q4, .slice p5 b.roads.length q5, .slice p6 b.shelters.length q6, .slice p7 b.room.length q7, .int .i64 b.err] 31), ((w.heap.size + 1), .cells #[.int .i64 s.hour, .slice po s.own.length qo, .slice pr s.rem.length qr, .slice pq s.queue.length qq, .slice pg s.gates.length qg, .slice pi s.inn.length qi, .slice pu s.out.length qu] 36), ((w.heap.size + 1 + 1), .cells #[.int .i64 0, .int .i64 0, .int .i64 0, .int .i64 0, .int .i64 0, .string ⟨#[]⟩, .int .i64 0, .int .i64 0] 43)] wx) (fun _ iv _ => b.places.length - (Go.RowKit.intOf iv).toNat)
  case atStart => exact ⟨0, Nat.zero_le _, rfl, rfl, HR.out⟩
  case round =>
    obtain ⟨k, hk, rfl, rfl, hr⟩ := hrel
    have HR1 := Lib.hid hr
    clear hr HR
    obtain ⟨t, ht⟩ : ∃ t, t = foldS ((ownW (offs b) s.own).take k) o := ⟨_, rfl⟩
    have HSv := Lib.hid ht.symm
    have HSb : Hid (I64 t) := Lib.hid (by rw [ht]; exact foldS_bd _ _)
    rw [← ht]
    clear ht
    have z1 := HR1.out.cell 1 1 rfl rfl
    have b3 := HR1.out.cell 0 3 rfl rfl
    by_cases hlt : k < b.places.length
    · have hko : k < s.own.length := by have := HLn2.out; omega
      have hkp : k < b.places.length := by have := HLn2.out; omega
      have hkoi : (k : Int) < (s.own.length : Int) := by omega
      have hkpi : (k : Int) < (b.places.length : Int) := by omega
      obtain ⟨p, hp⟩ : ∃ p, s.own[k]? = some p := ⟨_, List.getElem?_eq_getElem hko⟩
      obtain ⟨x, hx⟩ : ∃ x, b.places[k]? = some x := ⟨_, List.getElem?_eq_getElem hkp⟩
      obtain ⟨bo, oo, cs, rfl, hbo, -, hro, vp, rfl, hpart⟩ := HT.out.lo.at hp
      obtain ⟨ap, cp, rfl, -, -⟩ := hpart.slice
      have HPt := Lib.hid hpart
      obtain ⟨bp, op, cs, rfl, hbp, -, hrp, u0, u1, u2, rfl, -⟩ := HS.out.at hx
      have cW : wr.cell? ⟨bo, oo + k, none⟩ = some (.slice ap p.length cp) := by
        have := (rangeAt_below hro HR1.out.below hbo) 0 _ rfl
        rw [Nat.mul_one, Nat.add_zero] at this
        exact this
      have cO : wr.cell? ⟨bp, op + k * 12 + 2, none⟩ = some (.int .i64 x.office) := (rangeAt_below hrp HR1.out.below hbp) 2 _ rfl
      have HW := Lib.hid (ownW_at hp (offs_at hx))
      clear hpart hro hrp hp hx
      by_cases h3 : x.office = o
      · have q3 : (x.office == o) = true := by rw [beq_iff_eq]; exact h3
        have HN : Hid (foldS ((ownW (offs b) s.own).take (k + 1)) o = addS t (totS p)) := Lib.hid (by rw [foldS_snoc HW.out, HSv.out]; exact if_pos h3)
        obtain ⟨y, hy⟩ : ∃ y, y = totS p := ⟨_, rfl⟩
        have HY := Lib.hid hy
        have HYb : Hid (I64 y) := Lib.hid (by rw [hy]; exact totS_bd _)
        rw [← hy] at HN
        clear h3 hy
        go_wp2_with fail
        refine (rtotal_any p _ _ (HPt.out.below stays_int HR1.out.below)).mono ?_
        rintro e w3 ⟨rfl, rfl⟩
        rw [← HY.out]
        go_wp2_with fail
        refine (radd_any t y _ HSb.out HYb.out).mono ?_
        rintro e w4 ⟨rfl, rfl⟩
        go_wp2_with fail
        go_roundw
        case rel => exact ⟨k + 1, by omega, by go_num, by rw [HN.out], HR1.out⟩
        case measure => simp [Go.RowKit.intOf]; omega
      · have q3 : (x.office == o) = false := by rw [beq_eq_false_iff_ne]; exact h3
        have HN : Hid (foldS ((ownW (offs b) s.own).take (k + 1)) o = t) := Lib.hid (by rw [foldS_snoc HW.out, HSv.out]; exact if_neg h3)
        go_wp2_with fail
        go_roundw
        case rel => exact ⟨k + 1, by omega, by go_num, by rw [HN.out], HR1.out⟩
        case measure => simp [Go.RowKit.intOf]; omega
    · obtain rfl : k = b.places.length := by omega
      have HE : Hid (t = foldS (ownW (offs b) s.own) o) := Lib.hid (by rw [← HSv.out, ← HLn2.out, ← ownW_len HLn.out, List.take_length])
      obtain ⟨u, hu⟩ : ∃ u, u = foldS (queW (offs b) s.queue) o := ⟨_, rfl⟩
      have HU := Lib.hid hu
      have HUb : Hid (I64 u) := Lib.hid (by rw [hu]; exact foldS_bd _ _)
      have HZ : Hid (addS t u = zz) := Lib.hid (by rw [HZZ.out, HE.out, hu]; rfl)
      have z3 := HR1.out.cell 1 3 rfl rfl
      clear hlt hk hu
      go_wp2_with (refine wpList_load_rowW (by first | (go_simp; done) | rfl) 31 _ rfl _ rfl 31 _ _ _ (HR1.out.row 0 rfl) undBaS rfl infoBaS ?_)
      refine (runderK_any b p0 p1 p2 p3 p4 p5 p6 p7 q0 q1 q2 q3 q4 q5 q6 q7 s.queue _ o _ (HS.out.below stays_Place HR1.out.below) (HT.out.lq.below stays_Load HR1.out.below) HOo.out hpl).mono ?_
      rintro e w5 ⟨rfl, hb⟩
      rw [← HU.out]
      have HR5 := Lib.hid (HR1.out.step hb)
      clear hb z1 b3 z3 HR1
      go_wp2_with fail
      refine (radd_any t u _ HSb.out HUb.out).mono ?_
      rintro e w6 ⟨rfl, rfl⟩
      rw [HZ.out]
      have z0 := HR5.out.cell 1 0 rfl rfl
      go_wp2_with (refine wpList_store_row rfl 43 _ _ rfl (w.heap.size + 1 + 1) #[.int .i64 o, .int .i64 s.hour, .int .i64 i1, .int .i64 i2, .int .i64 zz, .string prev, .int .i64 0, .int .i64 0] rfl rfl 43 #[.int .i64 0, .int .i64 0, .int .i64 0, .int .i64 0, .int .i64 0, .string ⟨#[]⟩, .int .i64 0, .int .i64 0] (HR5.out.row 2 rfl) infoClS rfl (by simp [Value.oneCell']) ?_)
      have HRZ := Lib.hid (HR5.out.set (i := 2) (cs' := #[.int .i64 o, .int .i64 s.hour, .int .i64 i1, .int .i64 i2, .int .i64 zz, .string prev, .int .i64 0, .int .i64 0]) rfl)
      exact bodyPost_ret (v := .agg #[.int .i64 o, .int .i64 s.hour, .int .i64 i1, .int .i64 i2, .int .i64 zz, .string prev, .int .i64 0, .int .i64 0]) (results_cell_row rfl _ _ (w.heap.size + 1 + 1) 43 #[.int .i64 o, .int .i64 s.hour, .int .i64 i1, .int .i64 i2, .int .i64 zz, .string prev, .int .i64 0, .int .i64 0] (0, 0) _ rfl (HRZ.out.row 2 rfl) undClS rfl infoClS) rfl ⟨rfl, HRZ.out.below⟩
end Go.Proofs.YtepidpegoihllaaGreatDoor

