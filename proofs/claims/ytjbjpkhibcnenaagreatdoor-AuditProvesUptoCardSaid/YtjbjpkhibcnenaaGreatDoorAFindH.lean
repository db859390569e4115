/- Texts merged: AFindG AFindH -/
import Derived.Test.YtjbjpkhibcnenaaGreatDoorAFindF
/- audit.Find: the closure of broken. -/
namespace Go.Proofs.YtjbjpkhibcnenaaGreatDoor
open Go.RowKit
set_option maxRecDepth 100000 in
set_option maxHeartbeats 4000000 in
theorem broken1_any (jb mb : Nat) (ar ap : Option Addr) (cr cp : Nat) (err : Int) (room ps : List Int) (pubs : List PublicV) (sb tb pb : Nat) (p : PV) (c d : CV) (w : World) (hJ : JudgeAt jb mb ar ap cr cp err room ps pubs w) (ht : w.cell? ⟨tb, 0, none⟩ = some (.pointer (some ⟨sb, 0, none⟩))) (htl : tb < w.heap.size) (hs : w.cell? ⟨sb, 0, none⟩ = some (.pointer (some ⟨jb, 0, none⟩))) (hsl : sb < w.heap.size) (hp : w.heap[pb]? = some (.cells #[.int .i64 p.office, .int .i64 p.since, .int .i64 p.till, .int .i64 p.litres, .int .i64 p.e, .int .i64 p.s] 38 (0, 0))) (hc : CNum c) (hd : CNum d) (hpl : -1152921504606846976 ≤ p.litres ∧ p.litres ≤ 1152921504606846976) :
    Calls Tryz.prog 59 #[.agg #[.int .i64 c.office, .int .i64 c.hour, .int .i64 c.inn, .int .i64 c.out, .int .i64 c.store, .string c.prev, .int .i64 c.e, .int .i64 c.s], .agg #[.int .i64 d.office, .int .i64 d.hour, .int .i64 d.inn, .int .i64 d.out, .int .i64 d.store, .string d.prev, .int .i64 d.e, .int .i64 d.s], .pointer (some ⟨tb, 0, none⟩), .pointer (some ⟨pb, 0, none⟩)] w (RetB (brkB (judgeV err room ps pubs) p c d) w) := by
  have HT0 := Lib.hid ht
  have HS0 := Lib.hid hs
  have HP := Lib.hid hp
  have HBk : Hid (∀ w0, Below w.heap.size w w0 → Calls Tryz.prog 60 #[.pointer (some ⟨jb, 0, none⟩), .agg #[.int .i64 c.office, .int .i64 c.hour, .int .i64 c.inn, .int .i64 c.out, .int .i64 c.store, .string c.prev, .int .i64 c.e, .int .i64 c.s], .agg #[.int .i64 d.office, .int .i64 d.hour, .int .i64 d.inn, .int .i64 d.out, .int .i64 d.store, .string d.prev, .int .i64 d.e, .int .i64 d.s], .agg #[.int .i64 p.office, .int .i64 p.since, .int .i64 p.till, .int .i64 p.litres, .int .i64 p.e, .int .i64 p.s]] w0 (RetB (brkB (judgeV err room ps pubs) p c d) w0)) := Lib.hid (fun w0 hb => breaks_any jb mb ar ap cr cp err room ps pubs (hoursF pubs) (kB ps) (vB ps) c d p w0 (hJ.below hb) hc hd hpl)
  have s1 : (w.alloc (.cells #[.int .i64 c.office, .int .i64 c.hour, .int .i64 c.inn, .int .i64 c.out, .int .i64 c.store, .string c.prev, .int .i64 c.e, .int .i64 c.s] 63)).heap.size = w.heap.size + 1 := by simp
  have HR : Hid (RowsS w [(w.heap.size, .cells #[.int .i64 c.office, .int .i64 c.hour, .int .i64 c.inn, .int .i64 c.out, .int .i64 c.store, .string c.prev, .int .i64 c.e, .int .i64 c.s] 63), ((w.heap.size + 1), .cells #[.int .i64 d.office, .int .i64 d.hour, .int .i64 d.inn, .int .i64 d.out, .int .i64 d.store, .string d.prev, .int .i64 d.e, .int .i64 d.s] 63)] ((w.alloc (.cells #[.int .i64 c.office, .int .i64 c.hour, .int .i64 c.inn, .int .i64 c.out, .int .i64 c.store, .string c.prev, .int .i64 c.e, .int .i64 c.s] 63)).alloc (.cells #[.int .i64 d.office, .int .i64 d.hour, .int .i64 d.inn, .int .i64 d.out, .int .i64 d.store, .string d.prev, .int .i64 d.e, .int .i64 d.s] 63))) := Lib.hid (by
    have := ((RowsS.nil w).alloc (.cells #[.int .i64 c.office, .int .i64 c.hour, .int .i64 c.inn, .int .i64 c.out, .int .i64 c.store, .string c.prev, .int .i64 c.e, .int .i64 c.s] 63)).alloc (.cells #[.int .i64 d.office, .int .i64 d.hour, .int .i64 d.inn, .int .i64 d.out, .int .i64 d.store, .string d.prev, .int .i64 d.e, .int .i64 d.s] 63)
    rw [s1] at this
    exact this)
  clear hJ ht hs hp s1
  go_enter Tryz.func59, Tryz.ntmps59
  go_upto_region 1 with fail
  generalize ((w.alloc (.cells #[.int .i64 c.office, .int .i64 c.hour, .int .i64 c.inn, .int .i64 c.out, .int .i64 c.store, .string c.prev, .int .i64 c.e, .int .i64 c.s] 63)).alloc (.cells #[.int .i64 d.office, .int .i64 d.hour, .int .i64 d.inn, .int .i64 d.out, .int .i64 d.store, .string d.prev, .int .i64 d.e, .int .i64 d.s] 63)) = w0 at *
  refine wp_region_noPanic ?_
  refine wp_region_held_drew (S := fun cw => RowsS w [(w.heap.size, .cells #[.int .i64 c.office, .int .i64 c.hour, .int .i64 c.inn, .int .i64 c.out, .int .i64 c.store, .string c.prev, .int .i64 c.e, .int .i64 c.s] 63), ((w.heap.size + 1), .cells #[.int .i64 d.office, .int .i64 d.hour, .int .i64 d.inn, .int .i64 d.out, .int .i64 d.store, .string d.prev, .int .i64 d.e, .int .i64 d.s] 63)] cw) (by kernel_rfl) (HR.out.drew) (fun hHeld => ?_)
  refine tn 0 ?_ (hx := fun wz hSw => by have e4 := (hSw.below.cell (p := ⟨tb, 0, none⟩) htl).trans HT0.out; go_simp; try with_reducible rfl)
  try simp only [Act.put, aL1, aL2, aL3]
  refine tn 1 ?_
  try simp only [Act.put, aL1, aL2, aL3]
  refine tn 2 ?_
  try simp only [Act.put, aL1, aL2, aL3]
  refine tn 3 ?_ (hx := fun wz hSw => by have e4 := (hSw.below.cell (p := ⟨sb, 0, none⟩) hsl).trans HS0.out; go_simp; try with_reducible rfl)
  try simp only [Act.put, aL1, aL2, aL3]
  refine tn 4 ?_ (hx := fun wz hSw => by refine exec_load_row 63 ?_ ?_ _ ?_ 63 _ _ _ (hSw.row 0 rfl) undCm rfl infoCm; rotate_left 1; exact rfl; exact rfl)
  try simp only [Act.put, aL1, aL2, aL3]
  refine tn 5 ?_ (hx := fun wz hSw => by refine exec_load_row 63 ?_ ?_ _ ?_ 63 _ _ _ (hSw.row 1 rfl) undCm rfl infoCm; rotate_left 1; exact rfl; exact rfl)
  try simp only [Act.put, aL1, aL2, aL3]
  refine tn 6 ?_ (hx := fun wz hSw => by refine exec_load_row 38 ?_ ?_ _ ?_ 38 _ _ _ (hSw.oldRow HP) undPm rfl infoPm; rotate_left 1; exact rfl; exact rfl)
  try simp only [Act.put, aL1, aL2, aL3]
  refine rd1 7 (fun K hK => ?_)
  go_simp
  refine (HBk.out _ hHeld.below).mono ?_
  rintro e w' ⟨rfl, hb⟩
  refine hK.out _ _ (hHeld.step hb) (fun hHeld => ?_)
  clear hK K
  try simp only [Act.put, aL1, aL2, aL3]
  refine tn 8 ?_
  try simp only [Act.put, aL1, aL2, aL3]
  refine rdone (NoPanic.normal ?_)
  go_wp2_with fail
  go_ret
  exact ⟨rfl, hHeld.below⟩
end Go.Proofs.YtjbjpkhibcnenaaGreatDoor
/- audit.Find: broken. -/
namespace Go.Proofs.YtjbjpkhibcnenaaGreatDoor
open Go.RowKit
/-- the first broken promise of an office, among promises that count -/
def brokeV (J : JV) (L : List CV) (vs : List PV) (o : Int) : Option BlV :=
  vs.findSome? (fun p => if p.office = o then (first2 (brkB J p) L L).map fun x => ⟨o, 5, [x.1, x.2], p⟩ else none)
theorem brokeV_none {J : JV} {L : List CV} {vs : List PV} {o : Int} (h : ∀ (i : Nat) (p : PV), i < vs.length → vs[i]? = some p → p.office = o → first2 (brkB J p) L L = none) : brokeV J L vs o = none := by
  unfold brokeV
  rw [List.findSome?_eq_none_iff]
  intro p hp
  obtain ⟨i, hi⟩ := List.getElem?_of_mem hp
  split
  · next e => rw [h i p (List.getElem?_eq_some_iff.1 hi).1 hi e]; rfl
  · rfl
theorem brokeV_some {J : JV} {L : List CV} {vs : List PV} {o : Int} {k : Nat} {p : PV} {x y : CV} (h : ∀ (i : Nat) (p : PV), i < k → vs[i]? = some p → p.office = o → first2 (brkB J p) L L = none) (hp : vs[k]? = some p) (ho : p.office = o) (hf : first2 (brkB J p) L L = some (x, y)) : brokeV J L vs o = some ⟨o, 5, [x, y], p⟩ := by
  have e1 : vs = vs.take k ++ p :: vs.drop (k + 1) := by
    obtain ⟨hk, e⟩ := List.getElem?_eq_some_iff.1 hp
    rw [← e, List.getElem_cons_drop, List.take_append_drop]
  have h0 : brokeV J L (vs.take k) o = none := brokeV_none (fun i q hi hq => by
    rw [List.getElem?_take] at hq
    split at hq
    · exact h i q (by assumption) hq
    · cases hq)
  unfold brokeV at h0 ⊢
  rw [e1, List.findSome?_append, h0, List.findSome?_cons, if_pos ho, hf]
  rfl
set_option maxRecDepth 100000 in
set_option maxHeartbeats 8000000 in
theorem broken_any (jb mb : Nat) (ar ap : Option Addr) (cr cp : Nat) (err : Int) (room ps : List Int) (pubs : List PublicV) (sb j : Nat) (ao : Option Addr) (ko : Nat) (L : List CV) (last : Int) (w : World) (hJ : JudgeAt jb mb ar ap cr cp err room ps pubs w) (hS : SOf sb jb j ao ko L last w) (av : Option Addr) (kv : Nat) (vs : List PV) (hv : LArg RP 6 (.slice av vs.length kv) vs w) (hvc : w.cell? ⟨sb, 4, none⟩ = some (.slice av vs.length kv)) (hvl : vs.length ≤ 1000) (hvn : ∀ p ∈ vs, -1152921504606846976 ≤ p.litres ∧ p.litres ≤ 1152921504606846976) :
    Calls Tryz.prog 29 #[.pointer (some ⟨sb, 0, none⟩), .int .i64 (j : Int)] w (RetF (brokeV (judgeV err room ps pubs) L vs (j : Int)) w) := by
  have HJd := Lib.hid hJ
  have HSO := Lib.hid hS
  have HV := Lib.hid hv
  have hj3 := hS.j3
  have hj3i : (j : Int) < 3 := by omega
  have s1 : (w.alloc (.cells #[.pointer (some ⟨sb, 0, none⟩)] 65)).heap.size = w.heap.size + 1 := by simp
  have HR : Hid (RowsS w [(w.heap.size, .cells #[.pointer (some ⟨sb, 0, none⟩)] 65), ((w.heap.size + 1), .cells #[.int .i64 0, .int .i64 0, .slice none 0 0, .int .i64 0, .int .i64 0, .int .i64 0, .int .i64 0, .int .i64 0, .int .i64 0] 40)] ((w.alloc (.cells #[.pointer (some ⟨sb, 0, none⟩)] 65)).alloc (.cells #[.int .i64 0, .int .i64 0, .slice none 0 0, .int .i64 0, .int .i64 0, .int .i64 0, .int .i64 0, .int .i64 0, .int .i64 0] 40))) := Lib.hid (by
    have := ((RowsS.nil w).alloc (.cells #[.pointer (some ⟨sb, 0, none⟩)] 65)).alloc (.cells #[.int .i64 0, .int .i64 0, .slice none 0 0, .int .i64 0, .int .i64 0, .int .i64 0, .int .i64 0, .int .i64 0, .int .i64 0] 40)
    rw [s1] at this
    exact this)
  have hv4 := (HR.out.below.cell (p := ⟨sb, 4, none⟩) hS.lt).trans hvc
  clear hJ hS hv hvc s1
  go_enter Tryz.func29, Tryz.ntmps29
  go_upto_region 1 with fail
  generalize ((w.alloc (.cells #[.pointer (some ⟨sb, 0, none⟩)] 65)).alloc (.cells #[.int .i64 0, .int .i64 0, .slice none 0 0, .int .i64 0, .int .i64 0, .int .i64 0, .int .i64 0, .int .i64 0, .int .i64 0] 40)) = w0 at *
  have t0 := HR.out.cell 0 0 rfl rfl
  go_wp2_with fail
  clear hv4 t0
  go_loopw [19] (fun iv wx => ∃ k : Nat, k ≤ vs.length ∧ iv = .int .i64 k ∧ (∀ (i : Nat) (p : PV), i < k → vs[i]? = some p → p.office = (j : Int) → first2 (brkB (judgeV err room ps pubs) p) L L = none) ∧ RowsS w [(w.heap.size, .cells #[.pointer (some ⟨sb, 0, none⟩)] 65), ((w.heap.size + 1), .cells #[.int .i64 0, .int .i64 0, .slice none 0 0, .int .i64 0, .int .i64 0, .int .i64 0, .int .i64 0, .int .i64 0, .int .i64 0] 40)] wx) (fun iv _ => vs.length - (Go.RowKit.intOf iv).toNat)
  case atStart => exact ⟨0, Nat.zero_le _, rfl, fun i x h => absurd h (Nat.not_lt_zero _), HR.out⟩
  case round =>
    obtain ⟨k, hk, rfl, hno, hr⟩ := hrel
    have HNO := Lib.hid hno
    have HR1 := Lib.hid hr
    clear hno hr HR
    by_cases hlt : k < vs.length
    · obtain ⟨p, hp⟩ : ∃ p, vs[k]? = some p := ⟨_, List.getElem?_eq_getElem hlt⟩
      have hpn := hvn p (List.mem_of_getElem? hp)
      obtain ⟨b, o, cs, rfl, hbl, -, hrg, hcs, -⟩ := HV.out.at hp
      unfold cellsP at hcs
      subst hcs
      have HRG := Lib.hid (rangeAt_below hrg HR1.out.below hbl)
      have HP := Lib.hid hp
      have HR2 := Lib.hid (HR1.out.alloc (.cells #[.int .i64 p.office, .int .i64 p.since, .int .i64 p.till, .int .i64 p.litres, .int .i64 p.e, .int .i64 p.s] 38))
      clear hp hrg HR1
      go_upto_region 4 with (refine wpList_load_range (by first | (go_simp; done) | rfl) 38 _ rfl _ _ rfl _ _ HRG.out undPm rfl infoPm ?_)
      clear HRG
      generalize wr.alloc (.cells #[.int .i64 p.office, .int .i64 p.since, .int .i64 p.till, .int .i64 p.litres, .int .i64 p.e, .int .i64 p.s] 38) = w2 at *
      generalize wr.heap.size = bP at *
      have p0 := HR2.out.cell 2 0 rfl rfl
      by_cases ho : p.office = (j : Int)
      · have q1 : (p.office != (j : Int)) = false := by rw [bne_eq_false_iff_eq]; exact ho
        have q2 : (p.office == (j : Int)) = true := by rw [beq_iff_eq]; exact ho
        have HO := Lib.hid ho
        clear ho
        obtain ⟨x, y, r, hxy⟩ := pairIs (first2 (brkB (judgeV err room ps pubs) p) L L)
        have HBo : Hid (∀ w0, RowsS w [(w.heap.size, .cells #[.pointer (some ⟨sb, 0, none⟩)] 65), ((w.heap.size + 1), .cells #[.int .i64 0, .int .i64 0, .slice none 0 0, .int .i64 0, .int .i64 0, .int .i64 0, .int .i64 0, .int .i64 0, .int .i64 0] 40), (bP, .cells #[.int .i64 p.office, .int .i64 p.since, .int .i64 p.till, .int .i64 p.litres, .int .i64 p.e, .int .i64 p.s] 38)] w0 → Calls Tryz.prog 57 #[.slice ao L.length ko, .slice ao L.length ko, .func (.func 59) #[] #[.pointer (some ⟨w.heap.size, 0, none⟩), .pointer (some ⟨bP, 0, none⟩)]] w0 fun e w' => e = .returned (.tuple #[.agg #[.int .i64 x.office, .int .i64 x.hour, .int .i64 x.inn, .int .i64 x.out, .int .i64 x.store, .string x.prev, .int .i64 x.e, .int .i64 x.s], .agg #[.int .i64 y.office, .int .i64 y.hour, .int .i64 y.inn, .int .i64 y.out, .int .i64 y.store, .string y.prev, .int .i64 y.e, .int .i64 y.s], .bool r]) ∧ Below w0.heap.size w0 w') := Lib.hid (fun w0 hr => (boundaryB_any (brkB (judgeV err room ps pubs) p) L L (.slice ao L.length ko) (.slice ao L.length ko) w.heap.size bP w0 (HSO.out.l.below stays_RC hr.below) (HSO.out.l.below stays_RC hr.below) HSO.out.ll HSO.out.ll (fun w1 hb1 c hc d hd => broken1_any jb mb ar ap cr cp err room ps pubs sb w.heap.size bP p c d w1 (HJd.out.below (hr.below.trans (hb1.mono hr.below.size))) ((hr.step hb1).cell 0 0 rfl rfl) (blk_lt ((hr.step hb1).row 0 rfl)) (((hr.step hb1).below.cell (p := ⟨sb, 0, none⟩) HSO.out.lt).trans HSO.out.c0) (Nat.lt_of_lt_of_le HSO.out.lt (hr.step hb1).below.size) ((hr.step hb1).row 2 rfl) (HSO.out.hk c hc).1 (HSO.out.hk d hd).1 hpn)).mono (fun e w' h => hxy.ret h))
        have HXY := Lib.hid hxy
        clear hxy
        go_upto_region 6 with fail
        clear p0 q1 q2
        go_cut [9, 10, 11] (fun s9 s10 s11 wx => ∃ bX bY, s9 = .pointer (some ⟨bX, 0, none⟩) ∧ s10 = .pointer (some ⟨bY, 0, none⟩) ∧ s11 = .bool r ∧ RowsS w [(bX, .cells #[.int .i64 x.office, .int .i64 x.hour, .int .i64 x.inn, .int .i64 x.out, .int .i64 x.store, .string x.prev, .int .i64 x.e, .int .i64 x.s] 63), (bY, .cells #[.int .i64 y.office, .int .i64 y.hour, .int .i64 y.inn, .int .i64 y.out, .int .i64 y.store, .string y.prev, .int .i64 y.e, .int .i64 y.s] 63), (w.heap.size, .cells #[.pointer (some ⟨sb, 0, none⟩)] 65), ((w.heap.size + 1), .cells #[.int .i64 0, .int .i64 0, .slice none 0 0, .int .i64 0, .int .i64 0, .int .i64 0, .int .i64 0, .int .i64 0, .int .i64 0] 40), (bP, .cells #[.int .i64 p.office, .int .i64 p.since, .int .i64 p.till, .int .i64 p.litres, .int .i64 p.e, .int .i64 p.s] 38)] wx)
        case first =>
          refine wp_region_noPanic ?_
          refine wp_region_held_drew (S := fun cw => RowsS w [(w.heap.size, .cells #[.pointer (some ⟨sb, 0, none⟩)] 65), ((w.heap.size + 1), .cells #[.int .i64 0, .int .i64 0, .slice none 0 0, .int .i64 0, .int .i64 0, .int .i64 0, .int .i64 0, .int .i64 0, .int .i64 0] 40), (bP, .cells #[.int .i64 p.office, .int .i64 p.since, .int .i64 p.till, .int .i64 p.litres, .int .i64 p.e, .int .i64 p.s] 38)] cw) (by kernel_rfl) (HR2.out.drew) (fun hHeld => ?_)
          refine tn 0 ?_ (hx := fun wz hSw => by have e4 := hSw.cell 0 0 rfl rfl; go_simp; try with_reducible rfl)
          try simp only [Act.put, aL1, aL2, aL3]
          refine tn 1 ?_
          try simp only [Act.put, aL1, aL2, aL3]
          refine tn 2 ?_
          try simp only [Act.put, aL1, aL2, aL3]
          refine tn 3 ?_
          try simp only [Act.put, aL1, aL2, aL3]
          refine tn 4 ?_
          try simp only [Act.put, aL1, aL2, aL3]
          refine tn 5 ?_ (hx := fun wz hSw => by have e4 := (hSw.below.cell (p := ⟨sb, 1 + j, none⟩) HSO.out.lt).trans HSO.out.cj; go_simp; try with_reducible rfl)
          try simp only [Act.put, aL1, aL2, aL3]
          refine tn 6 ?_ (hx := fun wz hSw => by have e4 := hSw.cell 0 0 rfl rfl; go_simp; try with_reducible rfl)
          try simp only [Act.put, aL1, aL2, aL3]
          refine tn 7 ?_
          try simp only [Act.put, aL1, aL2, aL3]
          refine tn 8 ?_
          try simp only [Act.put, aL1, aL2, aL3]
          refine tn 9 ?_
          try simp only [Act.put, aL1, aL2, aL3]
          refine tn 10 ?_
          try simp only [Act.put, aL1, aL2, aL3]
          refine tn 11 ?_ (hx := fun wz hSw => by have e4 := (hSw.below.cell (p := ⟨sb, 1 + j, none⟩) HSO.out.lt).trans HSO.out.cj; go_simp; try with_reducible rfl)
          try simp only [Act.put, aL1, aL2, aL3]
          refine tn 12 ?_
          try simp only [Act.put, aL1, aL2, aL3]
          refine rd3 13 18 19 (fun K hK => ?_) (fun K hK => ?_) (fun K hK => ?_)
          go_simp
          refine (HBo.out _ hHeld).mono ?_
          rintro e w' ⟨rfl, hb⟩
          refine hK.out _ _ (hHeld.step hb) (fun hHeld => ?_)
          clear hK K
          try simp only [Act.put, aL1, aL2, aL3]
          refine tn 14 ?_
          try simp only [Act.put, aL1, aL2, aL3]
          refine tn 15 ?_
          try simp only [Act.put, aL1, aL2, aL3]
          refine tn 16 ?_
          try simp only [Act.put, aL1, aL2, aL3]
          refine tn 17 ?_
          try simp only [Act.put, aL1, aL2, aL3]
          refine rd2 18 19 (fun K hK => ?_) (fun K hK => ?_)
          go_simp
          obtain ⟨bX, hbe, hS1, hZX, hgX, hnX, hbA⟩ := hHeld.allocB (.cells #[.int .i64 0, .int .i64 0, .int .i64 0, .int .i64 0, .int .i64 0, .string ⟨#[]⟩, .int .i64 0, .int .i64 0] 63)
          try simp only [World.alloc, Array.size_push] at hbe
          rw [← hbe]
          refine hK.out _ _ hS1 (fun hHeld => ?_)
          clear hK K hS1 hbe hbA
          try simp only [Act.put, aL1, aL2, aL3]
          refine rd1 19 (fun K hK => ?_)
          go_simp
          obtain ⟨bY, hbe, hS1, hZY, hgY, hnY, hbA⟩ := hHeld.allocB (.cells #[.int .i64 0, .int .i64 0, .int .i64 0, .int .i64 0, .int .i64 0, .string ⟨#[]⟩, .int .i64 0, .int .i64 0] 63)
          have hxXY : bX ≠ bY := by rw [hbe]; exact Nat.ne_of_lt (blk_lt hZX)
          have hZX := (hbA.block bX (blk_lt hZX)).trans hZX
          try simp only [World.alloc, Array.size_push] at hbe
          rw [← hbe]
          refine hK.out _ _ hS1 (fun hHeld => ?_)
          clear hK K hS1 hbe hbA
          try simp only [Act.put, aL1, aL2, aL3]
          rotate_left
          go_simp
          obtain ⟨bY, hbe, hS1, hZY, hgY, hnY, hbA⟩ := hHeld.allocB (.cells #[.int .i64 0, .int .i64 0, .int .i64 0, .int .i64 0, .int .i64 0, .string ⟨#[]⟩, .int .i64 0, .int .i64 0] 63)
          try simp only [World.alloc, Array.size_push] at hbe
          rw [← hbe]
          refine hK.out _ _ hS1 (fun hHeld => ?_)
          clear hK K hS1 hbe hbA
          try simp only [Act.put, aL1, aL2, aL3]
          refine rd1 18 (fun K hK => ?_)
          go_simp
          obtain ⟨bX, hbe, hS1, hZX, hgX, hnX, hbA⟩ := hHeld.allocB (.cells #[.int .i64 0, .int .i64 0, .int .i64 0, .int .i64 0, .int .i64 0, .string ⟨#[]⟩, .int .i64 0, .int .i64 0] 63)
          have hxXY : bX ≠ bY := by rw [hbe]; exact (Nat.ne_of_lt (blk_lt hZY)).symm
          have hZY := (hbA.block bY (blk_lt hZY)).trans hZY
          try simp only [World.alloc, Array.size_push] at hbe
          rw [← hbe]
          refine hK.out _ _ hS1 (fun hHeld => ?_)
          clear hK K hS1 hbe hbA
          try simp only [Act.put, aL1, aL2, aL3]
          rotate_left
          go_simp
          obtain ⟨bX, hbe, hS1, hZX, hgX, hnX, hbA⟩ := hHeld.allocBD (.cells #[.int .i64 0, .int .i64 0, .int .i64 0, .int .i64 0, .int .i64 0, .string ⟨#[]⟩, .int .i64 0, .int .i64 0] 63)
          try simp only [World.alloc, Array.size_push] at hbe
          rw [← hbe]
          refine hK.out _ _ hS1 (fun hHeld => ?_)
          clear hK K hS1 hbe hbA
          try simp only [Act.put, aL1, aL2, aL3]
          refine rd2 13 19 (fun K hK => ?_) (fun K hK => ?_)
          go_simp
          refine (HBo.out _ hHeld).mono ?_
          rintro e w' ⟨rfl, hb⟩
          have hZX := (hb.block bX (blk_lt hZX)).trans hZX
          refine hK.out _ _ (hHeld.step hb) (fun hHeld => ?_)
          clear hK K
          try simp only [Act.put, aL1, aL2, aL3]
          refine tn 14 ?_
          try simp only [Act.put, aL1, aL2, aL3]
          refine tn 15 ?_
          try simp only [Act.put, aL1, aL2, aL3]
          refine tn 16 ?_
          try simp only [Act.put, aL1, aL2, aL3]
          refine tn 17 ?_
          try simp only [Act.put, aL1, aL2, aL3]
          refine rd1 19 (fun K hK => ?_)
          go_simp
          obtain ⟨bY, hbe, hS1, hZY, hgY, hnY, hbA⟩ := hHeld.allocB (.cells #[.int .i64 0, .int .i64 0, .int .i64 0, .int .i64 0, .int .i64 0, .string ⟨#[]⟩, .int .i64 0, .int .i64 0] 63)
          have hxXY : bX ≠ bY := by rw [hbe]; exact Nat.ne_of_lt (blk_lt hZX)
          have hZX := (hbA.block bX (blk_lt hZX)).trans hZX
          try simp only [World.alloc, Array.size_push] at hbe
          rw [← hbe]
          refine hK.out _ _ hS1 (fun hHeld => ?_)
          clear hK K hS1 hbe hbA
          try simp only [Act.put, aL1, aL2, aL3]
          rotate_left
          go_simp
          obtain ⟨bY, hbe, hS1, hZY, hgY, hnY, hbA⟩ := hHeld.allocBD (.cells #[.int .i64 0, .int .i64 0, .int .i64 0, .int .i64 0, .int .i64 0, .string ⟨#[]⟩, .int .i64 0, .int .i64 0] 63)
          have hxXY : bX ≠ bY := by rw [hbe]; exact Nat.ne_of_lt (blk_lt hZX)
          have hZX := (hbA.block bX (blk_lt hZX)).trans hZX
          try simp only [World.alloc, Array.size_push] at hbe
          rw [← hbe]
          refine hK.out _ _ hS1 (fun hHeld => ?_)
          clear hK K hS1 hbe hbA
          try simp only [Act.put, aL1, aL2, aL3]
          refine rd1 13 (fun K hK => ?_)
          go_simp
          refine (HBo.out _ hHeld).mono ?_
          rintro e w' ⟨rfl, hb⟩
          have hZX := (hb.block bX (blk_lt hZX)).trans hZX
          have hZY := (hb.block bY (blk_lt hZY)).trans hZY
          refine hK.out _ _ (hHeld.step hb) (fun hHeld => ?_)
          clear hK K
          try simp only [Act.put, aL1, aL2, aL3]
          refine tn 14 ?_
          try simp only [Act.put, aL1, aL2, aL3]
          refine tn 15 ?_
          try simp only [Act.put, aL1, aL2, aL3]
          refine tn 16 ?_
          try simp only [Act.put, aL1, aL2, aL3]
          refine tn 17 ?_
          try simp only [Act.put, aL1, aL2, aL3]
          rotate_left
          go_simp
          obtain ⟨bY, hbe, hS1, hZY, hgY, hnY, hbA⟩ := hHeld.allocBD (.cells #[.int .i64 0, .int .i64 0, .int .i64 0, .int .i64 0, .int .i64 0, .string ⟨#[]⟩, .int .i64 0, .int .i64 0] 63)
          try simp only [World.alloc, Array.size_push] at hbe
          rw [← hbe]
          refine hK.out _ _ hS1 (fun hHeld => ?_)
          clear hK K hS1 hbe hbA
          try simp only [Act.put, aL1, aL2, aL3]
          refine rd2 13 18 (fun K hK => ?_) (fun K hK => ?_)
          go_simp
          refine (HBo.out _ hHeld).mono ?_
          rintro e w' ⟨rfl, hb⟩
          have hZY := (hb.block bY (blk_lt hZY)).trans hZY
          refine hK.out _ _ (hHeld.step hb) (fun hHeld => ?_)
          clear hK K
          try simp only [Act.put, aL1, aL2, aL3]
          refine tn 14 ?_
          try simp only [Act.put, aL1, aL2, aL3]
          refine tn 15 ?_
          try simp only [Act.put, aL1, aL2, aL3]
          refine tn 16 ?_
          try simp only [Act.put, aL1, aL2, aL3]
          refine tn 17 ?_
          try simp only [Act.put, aL1, aL2, aL3]
          refine rd1 18 (fun K hK => ?_)
          go_simp
          obtain ⟨bX, hbe, hS1, hZX, hgX, hnX, hbA⟩ := hHeld.allocB (.cells #[.int .i64 0, .int .i64 0, .int .i64 0, .int .i64 0, .int .i64 0, .string ⟨#[]⟩, .int .i64 0, .int .i64 0] 63)
          have hxXY : bX ≠ bY := by rw [hbe]; exact (Nat.ne_of_lt (blk_lt hZY)).symm
          have hZY := (hbA.block bY (blk_lt hZY)).trans hZY
          try simp only [World.alloc, Array.size_push] at hbe
          rw [← hbe]
          refine hK.out _ _ hS1 (fun hHeld => ?_)
          clear hK K hS1 hbe hbA
          try simp only [Act.put, aL1, aL2, aL3]
          rotate_left
          go_simp
          obtain ⟨bX, hbe, hS1, hZX, hgX, hnX, hbA⟩ := hHeld.allocBD (.cells #[.int .i64 0, .int .i64 0, .int .i64 0, .int .i64 0, .int .i64 0, .string ⟨#[]⟩, .int .i64 0, .int .i64 0] 63)
          have hxXY : bX ≠ bY := by rw [hbe]; exact (Nat.ne_of_lt (blk_lt hZY)).symm
          have hZY := (hbA.block bY (blk_lt hZY)).trans hZY
          try simp only [World.alloc, Array.size_push] at hbe
          rw [← hbe]
          refine hK.out _ _ hS1 (fun hHeld => ?_)
          clear hK K hS1 hbe hbA
          try simp only [Act.put, aL1, aL2, aL3]
          refine rd1 13 (fun K hK => ?_)
          go_simp
          refine (HBo.out _ hHeld).mono ?_
          rintro e w' ⟨rfl, hb⟩
          have hZX := (hb.block bX (blk_lt hZX)).trans hZX
          have hZY := (hb.block bY (blk_lt hZY)).trans hZY
          refine hK.out _ _ (hHeld.step hb) (fun hHeld => ?_)
          clear hK K
          try simp only [Act.put, aL1, aL2, aL3]
          refine tn 14 ?_
          try simp only [Act.put, aL1, aL2, aL3]
          refine tn 15 ?_
          try simp only [Act.put, aL1, aL2, aL3]
          refine tn 16 ?_
          try simp only [Act.put, aL1, aL2, aL3]
          refine tn 17 ?_
          try simp only [Act.put, aL1, aL2, aL3]
          rotate_left
          all_goals
            refine rd1 20 (fun K hK => ?_)
            rw [if_pos (by rfl)]
            refine wp_store_row 63 _ _ rfl bX #[.int .i64 x.office, .int .i64 x.hour, .int .i64 x.inn, .int .i64 x.out, .int .i64 x.store, .string x.prev, .int .i64 x.e, .int .i64 x.s] rfl rfl 63 #[.int .i64 0, .int .i64 0, .int .i64 0, .int .i64 0, .int .i64 0, .string ⟨#[]⟩, .int .i64 0, .int .i64 0] hZX infoCm rfl (by simp [Value.oneCell']) ?_
            have hZY := (setRow_other _ bX bY #[.int .i64 x.office, .int .i64 x.hour, .int .i64 x.inn, .int .i64 x.out, .int .i64 x.store, .string x.prev, .int .i64 x.e, .int .i64 x.s] (hxXY.symm)).trans hZY
            have hZX := setRow_heap _ _ _ #[.int .i64 x.office, .int .i64 x.hour, .int .i64 x.inn, .int .i64 x.out, .int .i64 x.store, .string x.prev, .int .i64 x.e, .int .i64 x.s] _ _ hZX
            refine hK.out _ _ (hHeld.setOther hgX hnX _) (fun hHeld => ?_)
            clear hK K
            try simp only [Act.put]
            refine rd1 21 (fun K hK => ?_)
            rw [if_pos (by rfl)]
            refine wp_store_row 63 _ _ rfl bY #[.int .i64 y.office, .int .i64 y.hour, .int .i64 y.inn, .int .i64 y.out, .int .i64 y.store, .string y.prev, .int .i64 y.e, .int .i64 y.s] rfl rfl 63 #[.int .i64 0, .int .i64 0, .int .i64 0, .int .i64 0, .int .i64 0, .string ⟨#[]⟩, .int .i64 0, .int .i64 0] hZY infoCm rfl (by simp [Value.oneCell']) ?_
            have hZX := (setRow_other _ bY bX #[.int .i64 y.office, .int .i64 y.hour, .int .i64 y.inn, .int .i64 y.out, .int .i64 y.store, .string y.prev, .int .i64 y.e, .int .i64 y.s] (hxXY)).trans hZX
            have hZY := setRow_heap _ _ _ #[.int .i64 y.office, .int .i64 y.hour, .int .i64 y.inn, .int .i64 y.out, .int .i64 y.store, .string y.prev, .int .i64 y.e, .int .i64 y.s] _ _ hZY
            refine hK.out _ _ (hHeld.setOther hgY hnY _) (fun hHeld => ?_)
            clear hK K
            try simp only [Act.put]
            refine tn 22 ?_
            try simp only [Act.put, aL1, aL2, aL3]
            refine rdone (NoPanic.normal ?_)
            have HRL := Lib.hid ((hHeld.cons hZY hgY hnY).cons hZX hgX (fun h => (List.mem_cons.1 h).elim (fun e => hxXY e) hnX))
            go_wp2_with fail
            go_meet
            exact ⟨bX, bY, rfl, rfl, rfl, HRL.out⟩
        obtain ⟨bX, bY, rfl, rfl, rfl, hr3⟩ := hcut
        have HR3 := Lib.hid hr3
        clear hr3 HR2
        rcases HXY.out with ⟨hf2, -, -, rfl⟩ | ⟨hf2, rfl⟩
        · have HN2 : Hid (∀ (i : Nat) (q : PV), i < k + 1 → vs[i]? = some q → q.office = (j : Int) → first2 (brkB (judgeV err room ps pubs) q) L L = none) := Lib.hid (fun i q hi hq hqo => by
            by_cases e : i = k
            · subst e; rw [HP.out] at hq; cases hq; exact hf2
            · exact HNO.out i q (by omega) hq hqo)
          have HR4 : Hid (RowsS w [(w.heap.size, .cells #[.pointer (some ⟨sb, 0, none⟩)] 65), ((w.heap.size + 1), .cells #[.int .i64 0, .int .i64 0, .slice none 0 0, .int .i64 0, .int .i64 0, .int .i64 0, .int .i64 0, .int .i64 0, .int .i64 0] 40)] wc) := Lib.hid (HR3.out.split.1.split.1.take 2)
          clear hf2 HR3
          go_wp2_with fail
          go_roundw
          case rel => exact ⟨k + 1, by omega, by go_num, HN2.out, HR4.out⟩
          case measure => simp [Go.RowKit.intOf]; omega
        · have HF := Lib.hid (brokeV_some HNO.out HP.out HO.out hf2)
          obtain ⟨hcm, hdm, -⟩ := first2_some hf2
          have hcg := good_of HSO.out.l hcm
          have hdg := good_of HSO.out.l hdm
          clear hf2 hcm hdm
          have HR4 := Lib.hid (HR3.out.alloc (.cells #[.int .i64 x.office, .int .i64 x.hour, .int .i64 x.inn, .int .i64 x.out, .int .i64 x.store, .string x.prev, .int .i64 x.e, .int .i64 x.s, .int .i64 y.office, .int .i64 y.hour, .int .i64 y.inn, .int .i64 y.out, .int .i64 y.store, .string y.prev, .int .i64 y.e, .int .i64 y.s] 63))
          go_wp2_with (first | (refine wpList_load_rowW (by first | (go_simp; done) | rfl) 63 _ rfl _ rfl 63 _ _ _ (HR3.out.row 0 rfl) undCm rfl infoCm ?_) | (refine wpList_load_rowW (by first | (go_simp; done) | rfl) 63 _ rfl _ rfl 63 _ _ _ (HR3.out.row 1 rfl) undCm rfl infoCm ?_))
          generalize (wc.alloc (.cells #[.int .i64 x.office, .int .i64 x.hour, .int .i64 x.inn, .int .i64 x.out, .int .i64 x.store, .string x.prev, .int .i64 x.e, .int .i64 x.s, .int .i64 y.office, .int .i64 y.hour, .int .i64 y.inn, .int .i64 y.out, .int .i64 y.store, .string y.prev, .int .i64 y.e, .int .i64 y.s] 63)) = w6 at *
          generalize wc.heap.size = bs at *
          refine (proof_any (j : Int) 5 (some ⟨bs, 0, none⟩) 2 2 _).mono ?_
          rintro e w7 ⟨rfl, hb7⟩
          have HR8 := Lib.hid ((HR4.out.step hb7).alloc (.cells #[.int .i64 (j : Int), .int .i64 5, .slice (some ⟨bs, 0, none⟩) 2 2, .int .i64 0, .int .i64 0, .int .i64 0, .int .i64 0, .int .i64 0, .int .i64 0] 40))
          clear hb7 HR4 HR3
          go_upto_region 9 with fail
          generalize w7.alloc (.cells #[.int .i64 (j : Int), .int .i64 5, .slice (some ⟨bs, 0, none⟩) 2 2, .int .i64 0, .int .i64 0, .int .i64 0, .int .i64 0, .int .i64 0, .int .i64 0] 40) = w8 at *
          generalize w7.heap.size = bZ at *
          have HTH : Hid (w8.there bZ 3 6) := Lib.hid (there_row (HR8.out.row 6 rfl) 3 6 (by simp))
          go_upto_region 10 with (first | (refine wpList_load_rowW (by first | (go_simp; done) | rfl) 38 _ rfl _ rfl 38 _ _ _ (HR8.out.row 4 rfl) undPm rfl infoPm ?_) | (refine wpList_store_mid rfl 38 _ _ rfl bZ 3 #[.int .i64 p.office, .int .i64 p.since, .int .i64 p.till, .int .i64 p.litres, .int .i64 p.e, .int .i64 p.s] rfl rfl (HTH.out) infoPm (by simp [Value.oneCell']) ?_))
          have HR9 : Hid (RowsS w [(bX, .cells #[.int .i64 x.office, .int .i64 x.hour, .int .i64 x.inn, .int .i64 x.out, .int .i64 x.store, .string x.prev, .int .i64 x.e, .int .i64 x.s] 63), (bY, .cells #[.int .i64 y.office, .int .i64 y.hour, .int .i64 y.inn, .int .i64 y.out, .int .i64 y.store, .string y.prev, .int .i64 y.e, .int .i64 y.s] 63), (w.heap.size, .cells #[.pointer (some ⟨sb, 0, none⟩)] 65), ((w.heap.size + 1), .cells #[.int .i64 0, .int .i64 0, .slice none 0 0, .int .i64 0, .int .i64 0, .int .i64 0, .int .i64 0, .int .i64 0, .int .i64 0] 40), (bP, .cells #[.int .i64 p.office, .int .i64 p.since, .int .i64 p.till, .int .i64 p.litres, .int .i64 p.e, .int .i64 p.s] 38), (bs, .cells #[.int .i64 x.office, .int .i64 x.hour, .int .i64 x.inn, .int .i64 x.out, .int .i64 x.store, .string x.prev, .int .i64 x.e, .int .i64 x.s, .int .i64 y.office, .int .i64 y.hour, .int .i64 y.inn, .int .i64 y.out, .int .i64 y.store, .string y.prev, .int .i64 y.e, .int .i64 y.s] 63), (bZ, .cells #[.int .i64 (j : Int), .int .i64 5, .slice (some ⟨bs, 0, none⟩) 2 2, .int .i64 p.office, .int .i64 p.since, .int .i64 p.till, .int .i64 p.litres, .int .i64 p.e, .int .i64 p.s] 40)] (w8.setCells bZ 3 [.int .i64 p.office, .int .i64 p.since, .int .i64 p.till, .int .i64 p.litres, .int .i64 p.e, .int .i64 p.s])) := Lib.hid (by
            have h := HR8.out.setCells (i := 6) (b := bZ) (t := 40) (cs := #[.int .i64 (j : Int), .int .i64 5, .slice (some ⟨bs, 0, none⟩) 2 2, .int .i64 0, .int .i64 0, .int .i64 0, .int .i64 0, .int .i64 0, .int .i64 0]) [.int .i64 p.office, .int .i64 p.since, .int .i64 p.till, .int .i64 p.litres, .int .i64 p.e, .int .i64 p.s] 3 rfl
            have e : setL #[.int .i64 (j : Int), .int .i64 5, .slice (some ⟨bs, 0, none⟩) 2 2, .int .i64 0, .int .i64 0, .int .i64 0, .int .i64 0, .int .i64 0, .int .i64 0] 3 [.int .i64 p.office, .int .i64 p.since, .int .i64 p.till, .int .i64 p.litres, .int .i64 p.e, .int .i64 p.s] = #[.int .i64 (j : Int), .int .i64 5, .slice (some ⟨bs, 0, none⟩) 2 2, .int .i64 p.office, .int .i64 p.since, .int .i64 p.till, .int .i64 p.litres, .int .i64 p.e, .int .i64 p.s] := by simp [setL]
            rw [e] at h
            exact h)
          clear HR8
          generalize w8.setCells bZ 3 [.int .i64 p.office, .int .i64 p.since, .int .i64 p.till, .int .i64 p.litres, .int .i64 p.e, .int .i64 p.s] = w9 at *
          go_wp2_with (first | (refine wpList_load_rowW (by first | (go_simp; done) | rfl) 40 _ rfl _ rfl 40 _ _ _ (HR9.out.row 6 rfl) undBl rfl infoBl ?_) | (refine wpList_store_row rfl 40 _ _ rfl (w.heap.size + 1) #[.int .i64 (j : Int), .int .i64 5, .slice (some ⟨bs, 0, none⟩) 2 2, .int .i64 p.office, .int .i64 p.since, .int .i64 p.till, .int .i64 p.litres, .int .i64 p.e, .int .i64 p.s] rfl rfl 40 #[.int .i64 0, .int .i64 0, .slice none 0 0, .int .i64 0, .int .i64 0, .int .i64 0, .int .i64 0, .int .i64 0, .int .i64 0] (HR9.out.row 3 rfl) infoBl rfl (by simp [Value.oneCell']) ?_))
          have HRZ := Lib.hid (HR9.out.set (i := 3) (cs' := #[.int .i64 (j : Int), .int .i64 5, .slice (some ⟨bs, 0, none⟩) 2 2, .int .i64 p.office, .int .i64 p.since, .int .i64 p.till, .int .i64 p.litres, .int .i64 p.e, .int .i64 p.s]) rfl)
          exact bodyPost_ret (v := .tuple #[.agg #[.int .i64 (j : Int), .int .i64 5, .slice (some ⟨bs, 0, none⟩) 2 2, .int .i64 p.office, .int .i64 p.since, .int .i64 p.till, .int .i64 p.litres, .int .i64 p.e, .int .i64 p.s], .bool true]) (Eq.trans (results_row_tmp rfl _ _ (w.heap.size + 1) 40 #[.int .i64 (j : Int), .int .i64 5, .slice (some ⟨bs, 0, none⟩) 2 2, .int .i64 p.office, .int .i64 p.since, .int .i64 p.till, .int .i64 p.litres, .int .i64 p.e, .int .i64 p.s] (0, 0) _ rfl (HRZ.out.row 3 rfl) undBl rfl infoBl) rfl) rfl (retF_some (p := p) HF.out (larg_rowC (l := [x, y]) (HRZ.out.row 5 rfl) (by
            intro z hz
            simp only [List.mem_cons, List.not_mem_nil, or_false] at hz
            rcases hz with rfl | rfl
            all_goals assumption) (by simp)) (HRZ.out.ge _ (List.mem_of_getElem? (i := 5) rfl)) HRZ.out.below)
      · have q1 : (p.office != (j : Int)) = true := by rw [bne_iff_ne]; exact ho
        have q2 : (p.office == (j : Int)) = false := by rw [beq_eq_false_iff_ne]; exact ho
        have HN2 : Hid (∀ (i : Nat) (q : PV), i < k + 1 → vs[i]? = some q → q.office = (j : Int) → first2 (brkB (judgeV err room ps pubs) q) L L = none) := Lib.hid (fun i q hi hq hqo => by
          by_cases e : i = k
          · subst e; rw [HP.out] at hq; cases hq; exact absurd hqo ho
          · exact HNO.out i q (by omega) hq hqo)
        have HR4 := Lib.hid (HR2.out.take 2)
        clear ho HR2
        go_wp2_with fail
        go_roundw
        case rel => exact ⟨k + 1, by omega, by go_num, HN2.out, HR4.out⟩
        case measure => simp [Go.RowKit.intOf]; omega
    · obtain rfl : k = vs.length := by omega
      have HF := Lib.hid (brokeV_none HNO.out)
      clear hlt hk
      go_wp2_with (refine wpList_store_row rfl 40 _ _ rfl (w.heap.size + 1) #[.int .i64 0, .int .i64 0, .slice none 0 0, .int .i64 0, .int .i64 0, .int .i64 0, .int .i64 0, .int .i64 0, .int .i64 0] rfl rfl 40 #[.int .i64 0, .int .i64 0, .slice none 0 0, .int .i64 0, .int .i64 0, .int .i64 0, .int .i64 0, .int .i64 0, .int .i64 0] (HR1.out.row 1 rfl) infoBl rfl (by simp [Value.oneCell']) ?_)
      have HRZ := Lib.hid (HR1.out.set (i := 1) (cs' := #[.int .i64 0, .int .i64 0, .slice none 0 0, .int .i64 0, .int .i64 0, .int .i64 0, .int .i64 0, .int .i64 0, .int .i64 0]) rfl)
      exact bodyPost_ret (v := .tuple #[.agg #[.int .i64 0, .int .i64 0, .slice none 0 0, .int .i64 0, .int .i64 0, .int .i64 0, .int .i64 0, .int .i64 0, .int .i64 0], .bool false]) (Eq.trans (results_row_tmp rfl _ _ (w.heap.size + 1) 40 #[.int .i64 0, .int .i64 0, .slice none 0 0, .int .i64 0, .int .i64 0, .int .i64 0, .int .i64 0, .int .i64 0, .int .i64 0] (0, 0) _ rfl (HRZ.out.row 1 rfl) undBl rfl infoBl) rfl) rfl (retF_none HF.out HRZ.out.below)
end Go.Proofs.YtjbjpkhibcnenaaGreatDoor
