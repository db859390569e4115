/- audit.Find: the closure of broken. -/
import Derived.Test.YtjbjpkhibcnenaaGreatDoorAFindF
namespace Go.Proofs.YtjbjpkhibcnenaaGreatDoor
open Go.RowKit
set_option maxRecDepth 100000 in
set_option maxHeartbeats 4000000 in
theorem broken1_any (jb mb : Nat) (ar ap : Option Addr) (cr cp : Nat) (err : Int) (room ps : List Int) (pubs : List PublicV) (sb tb pb : Nat) (p : PV) (c d : CV) (w : World) (hJ : JudgeAt jb mb ar ap cr cp err room ps pubs w) (ht : w.cell? ⟨tb, 0, none⟩ = some (.pointer (some ⟨sb, 0, none⟩))) (htl : tb < w.heap.size) (hs : w.cell? ⟨sb, 0, none⟩ = some (.pointer (some ⟨jb, 0, none⟩))) (hsl : sb < w.heap.size) (hp : w.heap[pb]? = some (.cells #[.int .i64 p.office, .int .i64 p.since, .int .i64 p.till, .int .i64 p.litres, .int .i64 p.e, .int .i64 p.s] 38 (0, 0))) (hc : CNum c) (hd : CNum d) (hpl : -1152921504606846976 ≤ p.litres ∧ p.litres ≤ 1152921504606846976) :
    Calls Tryz.prog 59 #[.agg #[.int .i64 c.office, .int .i64 c.hour, .int .i64 c.inn, .int .i64 c.out, .int .i64 c.store, .string c.prev, .int .i64 c.e, .int .i64 c.s], .agg #[.int .i64 d.office, .int .i64 d.hour, .int .i64 d.inn, .int .i64 d.out, .int .i64 d.store, .string d.prev, .int .i64 d.e, .int .i64 d.s], .pointer (some ⟨tb, 0, none⟩), .pointer (some ⟨pb, 0, none⟩)] w (RetB (brkB (judgeV err room ps pubs) p c d) w) := by
  have HT0 := Lib.hid ht
  have HS0 := Lib.hid hs
  have HP := Lib.hid hp
  have HBk : Hid (∀ w0, Below w.heap.size w w0 → Calls Tryz.prog 60 #[.pointer (some ⟨jb, 0, none⟩), .agg #[.int .i64 c.office, .int .i64 c.hour, .int .i64 c.inn, .int .i64 c.out, .int .i64 c.store, .string c.prev, .int .i64 c.e, .int .i64 c.s], .agg #[.int .i64 d.office, .int .i64 d.hour, .int .i64 d.inn, .int .i64 d.out, .int .i64 d.store, .string d.prev, .int .i64 d.e, .int .i64 d.s], .agg #[.int .i64 p.office, .int .i64 p.since, .int .i64 p.till, .int .i64 p.litres, .int .i64 p.e, .int .i64 p.s]] w0 (RetB (brkB (judgeV err room ps pubs) p c d) w0)) := Lib.hid (fun w0 hb => breaks_any jb mb ar ap cr cp err room ps pubs (hoursF pubs) (kB ps) (vB ps) c d p w0 (hJ.below hb) hc hd hpl)
  have s1 : (w.alloc (.cells #[.int .i64 c.office, .int .i64 c.hour, .int .i64 c.inn, .int .i64 c.out, .int .i64 c.store, .string c.prev, .int .i64 c.e, .int .i64 c.s] 63)).heap.size = w.heap.size + 1 := by simp
  have HR : Hid (RowsS w [(w.heap.size, .cells #[.int .i64 c.office, .int .i64 c.hour, .int .i64 c.inn, .int .i64 c.out, .int .i64 c.store, .string c.prev, .int .i64 c.e, .int .i64 c.s] 63), ((w.heap.size + 1), .cells #[.int .i64 d.office, .int .i64 d.hour, .int .i64 d.inn, .int .i64 d.out, .int .i64 d.store, .string d.prev, .int .i64 d.e, .int .i64 d.s] 63)] ((w.alloc (.cells #[.int .i64 c.office, .int .i64 c.hour, .int .i64 c.inn, .int .i64 c.out, .int .i64 c.store, .string c.prev, .int .i64 c.e, .int .i64 c.s] 63)).alloc (.cells #[.int .i64 d.office, .int .i64 d.hour, .int .i64 d.inn, .int .i64 d.out, .int .i64 d.store, .string d.prev, .int .i64 d.e, .int .i64 d.s] 63))) := Lib.hid (by
    have := ((RowsS.nil w).alloc (.cells #[.int .i64 c.office, .int .i64 c.hour, .int .i64 c.inn, .int .i64 c.out, .int .i64 c.store, .string c.prev, .int .i64 c.e, .int .i64 c.s] 63)).alloc (.cells #[.int .i64 d.office, .int .i64 d.hour, .int .i64 d.inn, .int .i64 d.out, .int .i64 d.store, .string d.prev, .int .i64 d.e, .int .i64 d.s] 63)
    rw [s1] at this
    exact this)
  clear hJ ht hs hp s1
  go_enter Tryz.func59, Tryz.ntmps59
  go_upto_region 1 with fail
  generalize ((w.alloc (.cells #[.int .i64 c.office, .int .i64 c.hour, .int .i64 c.inn, .int .i64 c.out, .int .i64 c.store, .string c.prev, .int .i64 c.e, .int .i64 c.s] 63)).alloc (.cells #[.int .i64 d.office, .int .i64 d.hour, .int .i64 d.inn, .int .i64 d.out, .int .i64 d.store, .string d.prev, .int .i64 d.e, .int .i64 d.s] 63)) = w0 at *
  refine wp_region_noPanic ?_
  refine wp_region_held_drew (S := fun cw => RowsS w [(w.heap.size, .cells #[.int .i64 c.office, .int .i64 c.hour, .int .i64 c.inn, .int .i64 c.out, .int .i64 c.store, .string c.prev, .int .i64 c.e, .int .i64 c.s] 63), ((w.heap.size + 1), .cells #[.int .i64 d.office, .int .i64 d.hour, .int .i64 d.inn, .int .i64 d.out, .int .i64 d.store, .string d.prev, .int .i64 d.e, .int .i64 d.s] 63)] cw) (by kernel_rfl) (HR.out.drew) (fun hHeld => ?_)
  refine tn 0 ?_ (hx := fun wz hSw => by have e4 := (hSw.below.cell (p := ⟨tb, 0, none⟩) htl).trans HT0.out; go_simp; try with_reducible rfl)
  try simp only [Act.put, aL1, aL2, aL3]
  refine tn 1 ?_
  try simp only [Act.put, aL1, aL2, aL3]
  refine tn 2 ?_
  try simp only [Act.put, aL1, aL2, aL3]
  refine tn 3 ?_ (hx := fun wz hSw => by have e4 := (hSw.below.cell (p := ⟨sb, 0, none⟩) hsl).trans HS0.out; go_simp; try with_reducible rfl)
  try simp only [Act.put, aL1, aL2, aL3]
  refine tn 4 ?_ (hx := fun wz hSw => by refine exec_load_row 63 ?_ ?_ _ ?_ 63 _ _ _ (hSw.row 0 rfl) undCm rfl infoCm; rotate_left 1; exact rfl; exact rfl)
  try simp only [Act.put, aL1, aL2, aL3]
  refine tn 5 ?_ (hx := fun wz hSw => by refine exec_load_row 63 ?_ ?_ _ ?_ 63 _ _ _ (hSw.row 1 rfl) undCm rfl infoCm; rotate_left 1; exact rfl; exact rfl)
  try simp only [Act.put, aL1, aL2, aL3]
  refine tn 6 ?_ (hx := fun wz hSw => by refine exec_load_row 38 ?_ ?_ _ ?_ 38 _ _ _ (hSw.oldRow HP) undPm rfl infoPm; rotate_left 1; exact rfl; exact rfl)
  try simp only [Act.put, aL1, aL2, aL3]
  refine rd1 7 (fun K hK => ?_)
  go_simp
  refine (HBk.out _ hHeld.below).mono ?_
  rintro e w' ⟨rfl, hb⟩
  refine hK.out _ _ (hHeld.step hb) (fun hHeld => ?_)
  clear hK K
  try simp only [Act.put, aL1, aL2, aL3]
  refine tn 8 ?_
  try simp only [Act.put, aL1, aL2, aL3]
  refine rdone (NoPanic.normal ?_)
  go_wp2_with fail
  go_ret
  exact ⟨rfl, hHeld.below⟩
end Go.Proofs.YtjbjpkhibcnenaaGreatDoor

