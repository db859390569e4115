/- bournelaw46.AuditProves: the core. -/
import Derived.Test.YtjbjpkhibcnenaaGreatDoorAPre
namespace Go.Proofs.YtjbjpkhibcnenaaGreatDoor
open Go.RowKit
set_option maxRecDepth 100000 in
set_option maxHeartbeats 16000000 in
theorem proves_core (x : BsX) (ar aq ac av al : Option Addr) (cr nq nc nv lc : Nat) (err : Int) (room : List Int) (pubs : List PublicV) (l : List CV) (vows : List PV) (xo xw : Int) (xc : List CV) (xp : PV) (w : World) (hR : LArg RInt 1 (.slice ar room.length cr) room w) (hQ : LArg RPublic 4 (.slice aq pubs.length nq) pubs w) (hC : LArg RC 8 (.slice ac l.length nc) l w) (hV : LArg RP 6 (.slice av vows.length nv) vows w) (hX : LArg RC 8 (.slice al xc.length lc) xc w) (hXp : ∀ c ∈ xc, c.prev.size ≤ 2000000) (hO : POk xp) (hg : Glob w) (hml : MLen w) :
    Calls Tryz.prog 3 #[.agg #[.string x.nm, .slice x.a1 x.n1 x.c1, .int .i64 x.k, .slice x.a3 x.n3 x.c3, .slice x.a4 x.n4 x.c4, .slice x.a5 x.n5 x.c5, .slice x.a6 x.n6 x.c6, .slice x.a7 x.n7 x.c7, .slice x.a8 x.n8 x.c8, .slice ar room.length cr, .int .i64 err], .slice aq pubs.length nq, .slice ac l.length nc, .slice av vows.length nv, .agg #[.int .i64 xo, .int .i64 xw, .slice al xc.length lc, .int .i64 xp.office, .int .i64 xp.since, .int .i64 xp.till, .int .i64 xp.litres, .int .i64 xp.e, .int .i64 xp.s]] w (RetB true w) := by
  have HGl := Lib.hid hg
  have HML := Lib.hid hml
  have HQ := Lib.hid hQ
  have HC := Lib.hid hC
  have HW := Lib.hid hV
  have HX := Lib.hid hX
  have HXp := Lib.hid hXp
  clear hg hml hQ hC hV hX hXp
  by_cases hpl : plainB room err = true
  rotate_left 1
  · rw [Bool.not_eq_true] at hpl
    have HPl : Hid (∀ w0, Below w.heap.size w w0 → Calls Tryz.prog 7 #[.agg #[.string x.nm, .slice x.a1 x.n1 x.c1, .int .i64 x.k, .slice x.a3 x.n3 x.c3, .slice x.a4 x.n4 x.c4, .slice x.a5 x.n5 x.c5, .slice x.a6 x.n6 x.c6, .slice x.a7 x.n7 x.c7, .slice x.a8 x.n8 x.c8, .slice ar room.length cr, .int .i64 err]] w0 fun e w' => e = .returned (.bool false) ∧ Below w0.heap.size w0 w') := Lib.hid (fun w0 hb => by have h := plain_any x ar cr err room w0 (hR.below stays_int hb); rw [hpl] at h; exact h)
    clear hpl
    have s1 : (w.alloc (.cells #[.string x.nm, .slice x.a1 x.n1 x.c1, .int .i64 x.k, .slice x.a3 x.n3 x.c3, .slice x.a4 x.n4 x.c4, .slice x.a5 x.n5 x.c5, .slice x.a6 x.n6 x.c6, .slice x.a7 x.n7 x.c7, .slice x.a8 x.n8 x.c8, .slice ar room.length cr, .int .i64 err] 31)).heap.size = w.heap.size + 1 := by simp
    have HR : Hid (RowsS w [(w.heap.size, .cells #[.string x.nm, .slice x.a1 x.n1 x.c1, .int .i64 x.k, .slice x.a3 x.n3 x.c3, .slice x.a4 x.n4 x.c4, .slice x.a5 x.n5 x.c5, .slice x.a6 x.n6 x.c6, .slice x.a7 x.n7 x.c7, .slice x.a8 x.n8 x.c8, .slice ar room.length cr, .int .i64 err] 31), ((w.heap.size + 1), .cells #[.int .i64 xo, .int .i64 xw, .slice al xc.length lc, .int .i64 xp.office, .int .i64 xp.since, .int .i64 xp.till, .int .i64 xp.litres, .int .i64 xp.e, .int .i64 xp.s] 40)] ((w.alloc (.cells #[.string x.nm, .slice x.a1 x.n1 x.c1, .int .i64 x.k, .slice x.a3 x.n3 x.c3, .slice x.a4 x.n4 x.c4, .slice x.a5 x.n5 x.c5, .slice x.a6 x.n6 x.c6, .slice x.a7 x.n7 x.c7, .slice x.a8 x.n8 x.c8, .slice ar room.length cr, .int .i64 err] 31)).alloc (.cells #[.int .i64 xo, .int .i64 xw, .slice al xc.length lc, .int .i64 xp.office, .int .i64 xp.since, .int .i64 xp.till, .int .i64 xp.litres, .int .i64 xp.e, .int .i64 xp.s] 40))) := Lib.hid (by
      have := ((RowsS.nil w).alloc (.cells #[.string x.nm, .slice x.a1 x.n1 x.c1, .int .i64 x.k, .slice x.a3 x.n3 x.c3, .slice x.a4 x.n4 x.c4, .slice x.a5 x.n5 x.c5, .slice x.a6 x.n6 x.c6, .slice x.a7 x.n7 x.c7, .slice x.a8 x.n8 x.c8, .slice ar room.length cr, .int .i64 err] 31)).alloc (.cells #[.int .i64 xo, .int .i64 xw, .slice al xc.length lc, .int .i64 xp.office, .int .i64 xp.since, .int .i64 xp.till, .int .i64 xp.litres, .int .i64 xp.e, .int .i64 xp.s] 40)
      rw [s1] at this
      exact this)
    clear s1
    go_enter Tryz.func3, Tryz.ntmps3
    go_upto_region 1 with fail
    generalize ((w.alloc (.cells #[.string x.nm, .slice x.a1 x.n1 x.c1, .int .i64 x.k, .slice x.a3 x.n3 x.c3, .slice x.a4 x.n4 x.c4, .slice x.a5 x.n5 x.c5, .slice x.a6 x.n6 x.c6, .slice x.a7 x.n7 x.c7, .slice x.a8 x.n8 x.c8, .slice ar room.length cr, .int .i64 err] 31)).alloc (.cells #[.int .i64 xo, .int .i64 xw, .slice al xc.length lc, .int .i64 xp.office, .int .i64 xp.since, .int .i64 xp.till, .int .i64 xp.litres, .int .i64 xp.e, .int .i64 xp.s] 40)) = w0 at *
    go_wp2_with fail
    refine (small46_any _ (HGl.out.below HR.out.below HGl.out.size) (HML.out.up HR.out.below)).mono ?_
    rintro e w1 ⟨rfl, hb1⟩
    have HR1 := Lib.hid (HR.out.step hb1)
    clear hb1 HR
    go_wp2_with (first | (refine wpList_load_rowW (by first | (go_simp; done) | rfl) 31 _ rfl _ rfl 31 _ _ _ (HR1.out.row 0 rfl) undBn rfl infoBn ?_))
    refine (HPl.out _ HR1.out.below).mono ?_
    rintro e w2 ⟨rfl, hb2⟩
    have HR2 := Lib.hid (HR1.out.step hb2)
    clear hb2 HR1
    go_wp2_with fail
    go_ret
    exact ⟨rfl, HR2.out.below⟩
  obtain ⟨h3, hee, hrr⟩ := plain_iff.1 hpl
  have HRm : Hid (LArg RInt 1 (.slice ar 3 cr) room w) := Lib.hid (by rw [← h3]; exact hR)
  have HPl : Hid (∀ w0, Below w.heap.size w w0 → Calls Tryz.prog 7 #[.agg #[.string x.nm, .slice x.a1 x.n1 x.c1, .int .i64 x.k, .slice x.a3 x.n3 x.c3, .slice x.a4 x.n4 x.c4, .slice x.a5 x.n5 x.c5, .slice x.a6 x.n6 x.c6, .slice x.a7 x.n7 x.c7, .slice x.a8 x.n8 x.c8, .slice ar 3 cr, .int .i64 err]] w0 fun e w' => e = .returned (.bool true) ∧ Below w0.heap.size w0 w') := Lib.hid (fun w0 hb => by have h := plain_any x ar cr err room w0 (hR.below stays_int hb); rw [hpl, h3] at h; exact h)
  rw [h3]
  clear hpl hR
  cases hfw : fewB46 pubs l vows with
  | false =>
    have HFw : Hid (∀ w0, Below w.heap.size w w0 → Calls Tryz.prog 8 #[.slice aq pubs.length nq, .slice ac l.length nc, .slice av vows.length nv] w0 fun e w' => e = .returned (.bool false) ∧ Below w0.heap.size w0 w') := Lib.hid (fun w0 hb => by have h := few46_any pubs l vows aq ac av nq nc nv w0 (HQ.out.below stays_Public hb) (HC.out.below stays_RC hb) (HW.out.below stays_RP hb); rw [hfw] at h; exact h)
    clear hfw
    have s1 : (w.alloc (.cells #[.string x.nm, .slice x.a1 x.n1 x.c1, .int .i64 x.k, .slice x.a3 x.n3 x.c3, .slice x.a4 x.n4 x.c4, .slice x.a5 x.n5 x.c5, .slice x.a6 x.n6 x.c6, .slice x.a7 x.n7 x.c7, .slice x.a8 x.n8 x.c8, .slice ar 3 cr, .int .i64 err] 31)).heap.size = w.heap.size + 1 := by simp
    have HR : Hid (RowsS w [(w.heap.size, .cells #[.string x.nm, .slice x.a1 x.n1 x.c1, .int .i64 x.k, .slice x.a3 x.n3 x.c3, .slice x.a4 x.n4 x.c4, .slice x.a5 x.n5 x.c5, .slice x.a6 x.n6 x.c6, .slice x.a7 x.n7 x.c7, .slice x.a8 x.n8 x.c8, .slice ar 3 cr, .int .i64 err] 31), ((w.heap.size + 1), .cells #[.int .i64 xo, .int .i64 xw, .slice al xc.length lc, .int .i64 xp.office, .int .i64 xp.since, .int .i64 xp.till, .int .i64 xp.litres, .int .i64 xp.e, .int .i64 xp.s] 40)] ((w.alloc (.cells #[.string x.nm, .slice x.a1 x.n1 x.c1, .int .i64 x.k, .slice x.a3 x.n3 x.c3, .slice x.a4 x.n4 x.c4, .slice x.a5 x.n5 x.c5, .slice x.a6 x.n6 x.c6, .slice x.a7 x.n7 x.c7, .slice x.a8 x.n8 x.c8, .slice ar 3 cr, .int .i64 err] 31)).alloc (.cells #[.int .i64 xo, .int .i64 xw, .slice al xc.length lc, .int .i64 xp.office, .int .i64 xp.since, .int .i64 xp.till, .int .i64 xp.litres, .int .i64 xp.e, .int .i64 xp.s] 40))) := Lib.hid (by
      have := ((RowsS.nil w).alloc (.cells #[.string x.nm, .slice x.a1 x.n1 x.c1, .int .i64 x.k, .slice x.a3 x.n3 x.c3, .slice x.a4 x.n4 x.c4, .slice x.a5 x.n5 x.c5, .slice x.a6 x.n6 x.c6, .slice x.a7 x.n7 x.c7, .slice x.a8 x.n8 x.c8, .slice ar 3 cr, .int .i64 err] 31)).alloc (.cells #[.int .i64 xo, .int .i64 xw, .slice al xc.length lc, .int .i64 xp.office, .int .i64 xp.since, .int .i64 xp.till, .int .i64 xp.litres, .int .i64 xp.e, .int .i64 xp.s] 40)
      rw [s1] at this
      exact this)
    clear s1
    go_enter Tryz.func3, Tryz.ntmps3
    go_upto_region 1 with fail
    generalize ((w.alloc (.cells #[.string x.nm, .slice x.a1 x.n1 x.c1, .int .i64 x.k, .slice x.a3 x.n3 x.c3, .slice x.a4 x.n4 x.c4, .slice x.a5 x.n5 x.c5, .slice x.a6 x.n6 x.c6, .slice x.a7 x.n7 x.c7, .slice x.a8 x.n8 x.c8, .slice ar 3 cr, .int .i64 err] 31)).alloc (.cells #[.int .i64 xo, .int .i64 xw, .slice al xc.length lc, .int .i64 xp.office, .int .i64 xp.since, .int .i64 xp.till, .int .i64 xp.litres, .int .i64 xp.e, .int .i64 xp.s] 40)) = w0 at *
    go_wp2_with fail
    refine (small46_any _ (HGl.out.below HR.out.below HGl.out.size) (HML.out.up HR.out.below)).mono ?_
    rintro e w1 ⟨rfl, hb1⟩
    have HR1 := Lib.hid (HR.out.step hb1)
    clear hb1 HR
    go_wp2_with (first | (refine wpList_load_rowW (by first | (go_simp; done) | rfl) 31 _ rfl _ rfl 31 _ _ _ (HR1.out.row 0 rfl) undBn rfl infoBn ?_))
    refine (HPl.out _ HR1.out.below).mono ?_
    rintro e w2 ⟨rfl, hb2⟩
    have HR2 := Lib.hid (HR1.out.step hb2)
    clear hb2 HR1
    go_wp2_with fail
    refine (HFw.out _ HR2.out.below).mono ?_
    rintro e w3 ⟨rfl, hb3⟩
    have HR3 := Lib.hid (HR2.out.step hb3)
    clear hb3 HR2
    go_wp2_with fail
    go_ret
    exact ⟨rfl, HR3.out.below⟩
  | true =>
    have HFw : Hid (∀ w0, Below w.heap.size w w0 → Calls Tryz.prog 8 #[.slice aq pubs.length nq, .slice ac l.length nc, .slice av vows.length nv] w0 fun e w' => e = .returned (.bool true) ∧ Below w0.heap.size w0 w') := Lib.hid (fun w0 hb => by have h := few46_any pubs l vows aq ac av nq nc nv w0 (HQ.out.below stays_Public hb) (HC.out.below stays_RC hb) (HW.out.below stays_RP hb); rw [hfw] at h; exact h)
    obtain ⟨-, hpv1, hl10, hq10, hv4⟩ := few46_iff.1 hfw
    clear hfw
    by_cases hl5 : xc.length ≤ 5
    rotate_left 1
    · have q1 : (5 : Int) < (xc.length : Int) := by omega
      have q1b : 5 < xc.length := by omega
      have s1 : (w.alloc (.cells #[.string x.nm, .slice x.a1 x.n1 x.c1, .int .i64 x.k, .slice x.a3 x.n3 x.c3, .slice x.a4 x.n4 x.c4, .slice x.a5 x.n5 x.c5, .slice x.a6 x.n6 x.c6, .slice x.a7 x.n7 x.c7, .slice x.a8 x.n8 x.c8, .slice ar 3 cr, .int .i64 err] 31)).heap.size = w.heap.size + 1 := by simp
      have HR : Hid (RowsS w [(w.heap.size, .cells #[.string x.nm, .slice x.a1 x.n1 x.c1, .int .i64 x.k, .slice x.a3 x.n3 x.c3, .slice x.a4 x.n4 x.c4, .slice x.a5 x.n5 x.c5, .slice x.a6 x.n6 x.c6, .slice x.a7 x.n7 x.c7, .slice x.a8 x.n8 x.c8, .slice ar 3 cr, .int .i64 err] 31), ((w.heap.size + 1), .cells #[.int .i64 xo, .int .i64 xw, .slice al xc.length lc, .int .i64 xp.office, .int .i64 xp.since, .int .i64 xp.till, .int .i64 xp.litres, .int .i64 xp.e, .int .i64 xp.s] 40)] ((w.alloc (.cells #[.string x.nm, .slice x.a1 x.n1 x.c1, .int .i64 x.k, .slice x.a3 x.n3 x.c3, .slice x.a4 x.n4 x.c4, .slice x.a5 x.n5 x.c5, .slice x.a6 x.n6 x.c6, .slice x.a7 x.n7 x.c7, .slice x.a8 x.n8 x.c8, .slice ar 3 cr, .int .i64 err] 31)).alloc (.cells #[.int .i64 xo, .int .i64 xw, .slice al xc.length lc, .int .i64 xp.office, .int .i64 xp.since, .int .i64 xp.till, .int .i64 xp.litres, .int .i64 xp.e, .int .i64 xp.s] 40))) := Lib.hid (by
        have := ((RowsS.nil w).alloc (.cells #[.string x.nm, .slice x.a1 x.n1 x.c1, .int .i64 x.k, .slice x.a3 x.n3 x.c3, .slice x.a4 x.n4 x.c4, .slice x.a5 x.n5 x.c5, .slice x.a6 x.n6 x.c6, .slice x.a7 x.n7 x.c7, .slice x.a8 x.n8 x.c8, .slice ar 3 cr, .int .i64 err] 31)).alloc (.cells #[.int .i64 xo, .int .i64 xw, .slice al xc.length lc, .int .i64 xp.office, .int .i64 xp.since, .int .i64 xp.till, .int .i64 xp.litres, .int .i64 xp.e, .int .i64 xp.s] 40)
        rw [s1] at this
        exact this)
      clear s1
      go_enter Tryz.func3, Tryz.ntmps3
      go_upto_region 1 with fail
      generalize ((w.alloc (.cells #[.string x.nm, .slice x.a1 x.n1 x.c1, .int .i64 x.k, .slice x.a3 x.n3 x.c3, .slice x.a4 x.n4 x.c4, .slice x.a5 x.n5 x.c5, .slice x.a6 x.n6 x.c6, .slice x.a7 x.n7 x.c7, .slice x.a8 x.n8 x.c8, .slice ar 3 cr, .int .i64 err] 31)).alloc (.cells #[.int .i64 xo, .int .i64 xw, .slice al xc.length lc, .int .i64 xp.office, .int .i64 xp.since, .int .i64 xp.till, .int .i64 xp.litres, .int .i64 xp.e, .int .i64 xp.s] 40)) = w0 at *
      go_wp2_with fail
      refine (small46_any _ (HGl.out.below HR.out.below HGl.out.size) (HML.out.up HR.out.below)).mono ?_
      rintro e w1 ⟨rfl, hb1⟩
      have HR1 := Lib.hid (HR.out.step hb1)
      clear hb1 HR
      go_wp2_with (first | (refine wpList_load_rowW (by first | (go_simp; done) | rfl) 31 _ rfl _ rfl 31 _ _ _ (HR1.out.row 0 rfl) undBn rfl infoBn ?_))
      refine (HPl.out _ HR1.out.below).mono ?_
      rintro e w2 ⟨rfl, hb2⟩
      have HR2 := Lib.hid (HR1.out.step hb2)
      clear hb2 HR1
      go_wp2_with fail
      refine (HFw.out _ HR2.out.below).mono ?_
      rintro e w3 ⟨rfl, hb3⟩
      have HR3 := Lib.hid (HR2.out.step hb3)
      clear hb3 HR2
      have cx := HR3.out.cell 1 2 rfl rfl
      go_wp2_with fail
      go_ret
      exact ⟨rfl, HR3.out.below⟩
    have q1 : ¬ (5 : Int) < (xc.length : Int) := by omega
    have q1b : ¬ 5 < xc.length := by omega
    have hcl : l.length ≤ 1000 := by omega
    have hvl : vows.length ≤ 1000 := by omega
    have hql : pubs.length ≤ 1000 := by omega
    have hxcl : xc.length ≤ 1000 := by omega
    have HPV : Hid (∀ y ∈ l, y.prev.size ≤ 900) := Lib.hid (fun y hy => Nat.le_trans (hpv1 y hy) (by decide))
    have HPB : Hid (∀ y ∈ l, y.prev.size ≤ 2000000) := Lib.hid (fun y hy => Nat.le_trans (hpv1 y hy) (by decide))
    clear hpv1
    have s1 : (w.alloc (.cells #[.string x.nm, .slice x.a1 x.n1 x.c1, .int .i64 x.k, .slice x.a3 x.n3 x.c3, .slice x.a4 x.n4 x.c4, .slice x.a5 x.n5 x.c5, .slice x.a6 x.n6 x.c6, .slice x.a7 x.n7 x.c7, .slice x.a8 x.n8 x.c8, .slice ar 3 cr, .int .i64 err] 31)).heap.size = w.heap.size + 1 := by simp
    have HR : Hid (RowsS w [(w.heap.size, .cells #[.string x.nm, .slice x.a1 x.n1 x.c1, .int .i64 x.k, .slice x.a3 x.n3 x.c3, .slice x.a4 x.n4 x.c4, .slice x.a5 x.n5 x.c5, .slice x.a6 x.n6 x.c6, .slice x.a7 x.n7 x.c7, .slice x.a8 x.n8 x.c8, .slice ar 3 cr, .int .i64 err] 31), ((w.heap.size + 1), .cells #[.int .i64 xo, .int .i64 xw, .slice al xc.length lc, .int .i64 xp.office, .int .i64 xp.since, .int .i64 xp.till, .int .i64 xp.litres, .int .i64 xp.e, .int .i64 xp.s] 40)] ((w.alloc (.cells #[.string x.nm, .slice x.a1 x.n1 x.c1, .int .i64 x.k, .slice x.a3 x.n3 x.c3, .slice x.a4 x.n4 x.c4, .slice x.a5 x.n5 x.c5, .slice x.a6 x.n6 x.c6, .slice x.a7 x.n7 x.c7, .slice x.a8 x.n8 x.c8, .slice ar 3 cr, .int .i64 err] 31)).alloc (.cells #[.int .i64 xo, .int .i64 xw, .slice al xc.length lc, .int .i64 xp.office, .int .i64 xp.since, .int .i64 xp.till, .int .i64 xp.litres, .int .i64 xp.e, .int .i64 xp.s] 40))) := Lib.hid (by
      have := ((RowsS.nil w).alloc (.cells #[.string x.nm, .slice x.a1 x.n1 x.c1, .int .i64 x.k, .slice x.a3 x.n3 x.c3, .slice x.a4 x.n4 x.c4, .slice x.a5 x.n5 x.c5, .slice x.a6 x.n6 x.c6, .slice x.a7 x.n7 x.c7, .slice x.a8 x.n8 x.c8, .slice ar 3 cr, .int .i64 err] 31)).alloc (.cells #[.int .i64 xo, .int .i64 xw, .slice al xc.length lc, .int .i64 xp.office, .int .i64 xp.since, .int .i64 xp.till, .int .i64 xp.litres, .int .i64 xp.e, .int .i64 xp.s] 40)
      rw [s1] at this
      exact this)
    clear s1
    go_enter Tryz.func3, Tryz.ntmps3
    go_upto_region 1 with fail
    generalize ((w.alloc (.cells #[.string x.nm, .slice x.a1 x.n1 x.c1, .int .i64 x.k, .slice x.a3 x.n3 x.c3, .slice x.a4 x.n4 x.c4, .slice x.a5 x.n5 x.c5, .slice x.a6 x.n6 x.c6, .slice x.a7 x.n7 x.c7, .slice x.a8 x.n8 x.c8, .slice ar 3 cr, .int .i64 err] 31)).alloc (.cells #[.int .i64 xo, .int .i64 xw, .slice al xc.length lc, .int .i64 xp.office, .int .i64 xp.since, .int .i64 xp.till, .int .i64 xp.litres, .int .i64 xp.e, .int .i64 xp.s] 40)) = w0 at *
    go_wp2_with fail
    refine (small46_any _ (HGl.out.below HR.out.below HGl.out.size) (HML.out.up HR.out.below)).mono ?_
    rintro e w1 ⟨rfl, hb1⟩
    have HR1 := Lib.hid (HR.out.step hb1)
    clear hb1 HR
    go_wp2_with (first | (refine wpList_load_rowW (by first | (go_simp; done) | rfl) 31 _ rfl _ rfl 31 _ _ _ (HR1.out.row 0 rfl) undBn rfl infoBn ?_))
    refine (HPl.out _ HR1.out.below).mono ?_
    rintro e w2 ⟨rfl, hb2⟩
    have HR2 := Lib.hid (HR1.out.step hb2)
    clear hb2 HR1
    go_wp2_with fail
    refine (HFw.out _ HR2.out.below).mono ?_
    rintro e w3 ⟨rfl, hb3⟩
    have HR3 := Lib.hid (HR2.out.step hb3)
    clear hb3 HR2
    have cx := HR3.out.cell 1 2 rfl rfl
    clear q1 q1b HPl HFw
    have HBW := Lib.hid HR3.out.below
    have HBas := Lib.hid (HR3.out.row 0 rfl)
    have HXr := Lib.hid (HR3.out.row 1 rfl)
    have hbl := blk_lt HBas.out
    have hxl := blk_lt HXr.out
    clear HR3
    go_upto_region 4 with fail
    clear cx
    refine wp_region_noPanic ?_
    refine wp_region_held_drew (S := fun cw => RowsS w3 [] cw) (by kernel_rfl) ((RowsS.nil w3).drew) (fun hHeld => ?_)
    refine tn 0 ?_ (hx := fun wz hSw => by refine exec_load_row 31 ?_ ?_ _ ?_ 31 _ _ _ (hSw.oldRow HBas) undBn rfl infoBn; rotate_left 1; exact rfl; exact rfl)
    try simp only [Act.put, aL1, aL2, aL3]
    refine tn 2 ?_
    try simp only [Act.put, aL1, aL2, aL3]
    refine tn 3 ?_
    try simp only [Act.put, aL1, aL2, aL3]
    refine tn 4 ?_
    try simp only [Act.put, aL1, aL2, aL3]
    refine rd1 1 (fun K hK => ?_)
    go_simp
    refine (publics_any _).mono ?_
    rintro e w' ⟨bp, rfl, hZP, hgeP, hb⟩
    refine hK.out _ _ (hHeld.step hb) (fun hHeld => ?_)
    clear hK K
    try simp only [Act.put, aL1, aL2, aL3]
    refine rd1 5 (fun K hK => ?_)
    go_simp
    refine (find_any x ar (some ⟨bp, 0, none⟩) cr 3 err room PSK (.slice aq pubs.length nq) pubs ac av nc nv l vows _ (gjin (HRm.out.below stays_int (HBW.out.trans (hHeld.below.mono HBW.out.size))) h3 hee hrr hZP (HQ.out.below stays_Public (HBW.out.trans (hHeld.below.mono HBW.out.size))) hql) (HC.out.below stays_RC (HBW.out.trans (hHeld.below.mono HBW.out.size))) (HW.out.below stays_RP (HBW.out.trans (hHeld.below.mono HBW.out.size))) hcl hvl HPV.out (HGl.out.below (HBW.out.trans (hHeld.below.mono HBW.out.size)) HGl.out.size) (HML.out.up (HBW.out.trans (hHeld.below.mono HBW.out.size)))).mono ?_
    rintro e w' ⟨v1, rfl, hv1, hb⟩
    have hZP := (hb.block bp (blk_lt hZP)).trans hZP
    refine hK.out _ _ (hHeld.step hb) (fun hHeld => ?_)
    clear hK K
    try simp only [Act.put, aL1, aL2, aL3]
    refine tn 6 ?_
    try simp only [Act.put, aL1, aL2, aL3]
    refine rdone (NoPanic.normal ?_)
    rename World => w4
    have HBW2 := Lib.hid (HBW.out.trans (hHeld.below.mono HBW.out.size))
    have HBas2 := Lib.hid (blk_below HBas.out hHeld.below (blk_lt HBas.out))
    have HXr2 := Lib.hid (blk_below HXr.out hHeld.below (blk_lt HXr.out))
    have HL1 := Lib.hid hv1
    clear HBW hHeld HBas HXr hbl hxl
    have HBW := HBW2
    have HBas := HBas2
    have HXr := HXr2
    clear HBW2 HBas2 HXr2
    have hbl := blk_lt HBas.out
    have hxl := blk_lt HXr.out
    have hn1 : (findL (judgeV err room PSK pubs) l vows).length ≤ 24 := findL_len _ _ _
    have HPr : Hid (∀ z ∈ findL (judgeV err room PSK pubs) l vows, checkB (judgeV err room PSK pubs) z = true ∧ (∀ c ∈ z.claims, c ∈ l) ∧ (z.why = 5 → z.prom ∈ vows)) := Lib.hid (fun z hz => find_proves hz)
    have HAl : Hid (checkB (judgeV err room PSK pubs) ⟨xo, xw, xc, xp⟩ = true → listedB ⟨xo, xw, xc, xp⟩ l vows = true → hasB (findL (judgeV err room PSK pubs) l vows) xo xw = true) := Lib.hid (fun h1 h2 => by
      obtain ⟨h3, h4⟩ := listedB_iff.1 h2
      exact hasB_iff.2 (find_all h1 h3 h4))
    have HSo := Lib.hid (findL_sorted (judgeV err room PSK pubs) l vows)
    obtain ⟨Y, hY⟩ : ∃ Y, Y = findL (judgeV err room PSK pubs) l vows := ⟨_, rfl⟩
    rw [← hY] at HL1 hn1 HPr HAl HSo
    clear hY
    obtain ⟨va1, vc1, hve1, -, -⟩ := HL1.out.slice
    subst hve1
    go_wp2_with fail
    go_loopw [13] (fun iv wx => ∃ k : Nat, k ≤ Y.length ∧ iv = .int .i64 k ∧ RowsS w4 [] wx) (fun iv _ => Y.length - (Go.RowKit.intOf iv).toNat)
    case atStart => exact ⟨0, Nat.zero_le _, rfl, RowsS.nil _⟩
    case round =>
      obtain ⟨k, hk, rfl, hr⟩ := hrel
      have HRK := Lib.hid hr
      clear hr
      by_cases hlt : k < Y.length
      · obtain ⟨z, hz⟩ : ∃ z, Y[k]? = some z := ⟨_, List.getElem?_eq_getElem hlt⟩
        have hzm := List.mem_of_getElem? hz
        obtain ⟨bx, oz, csz, rfl, hbY, -, hrz, uz, rfl, hbo, huz⟩ := HL1.out.at hz
        obtain ⟨alz, lcz, rfl, -, -⟩ := huz.slice
        have HZc : Hid (w4.rangeAt bx (oz + k * 9) [.int .i64 z.office, .int .i64 z.why, .slice alz z.claims.length lcz, .int .i64 z.prom.office, .int .i64 z.prom.since, .int .i64 z.prom.till, .int .i64 z.prom.litres, .int .i64 z.prom.e, .int .i64 z.prom.s]) := Lib.hid hrz
        obtain ⟨hp1, hp2, hp3⟩ := HPr.out z hzm
        have hzl : z.claims.length ≤ 1000 := Nat.le_trans (check_len hp1) (by decide)
        have hlsz : listedB z l vows = true := listedB_iff.2 ⟨hp2, hp3⟩
        have HCk : Hid (∀ (w0 : World) (bp : Nat), Below w4.heap.size w4 w0 → w0.heap[bp]? = some (.cells #[.int .i64 (pk 0), .int .i64 (pk 1), .int .i64 (pk 2)] 3 (0, 0)) → Calls Tryz.prog 11 #[.agg #[.string x.nm, .slice x.a1 x.n1 x.c1, .int .i64 x.k, .slice x.a3 x.n3 x.c3, .slice x.a4 x.n4 x.c4, .slice x.a5 x.n5 x.c5, .slice x.a6 x.n6 x.c6, .slice x.a7 x.n7 x.c7, .slice x.a8 x.n8 x.c8, .slice ar 3 cr, .int .i64 err], .slice (some ⟨bp, 0, none⟩) 3 3, .slice aq pubs.length nq, .agg #[.int .i64 z.office, .int .i64 z.why, .slice alz z.claims.length lcz, .int .i64 z.prom.office, .int .i64 z.prom.since, .int .i64 z.prom.till, .int .i64 z.prom.litres, .int .i64 z.prom.e, .int .i64 z.prom.s]] w0 fun e w' => e = .returned (.bool true) ∧ Below w0.heap.size w0 w') := Lib.hid (fun w0 bp hb hp => by have hbw := HBW.out.trans (hb.mono HBW.out.size); have h := check_any x ar (some ⟨bp, 0, none⟩) cr 3 err room PSK (.slice aq pubs.length nq) pubs z.office z.why z.claims z.prom alz lcz w0 (gjin (HRm.out.below stays_int hbw) h3 hee hrr hp (HQ.out.below stays_Public hbw) hql) (huz.below stays_RC hb) (fun c hc => ⟨(good_of huz hc).1, HPB.out c (hp2 c hc)⟩) hzl hbo.2.2 (HGl.out.below hbw HGl.out.size) (HML.out.up hbw); rw [show checkB (judgeV err room PSK pubs) ⟨z.office, z.why, z.claims, z.prom⟩ = true from hp1] at h; exact h)
        have HLs : Hid (∀ w0, Below w4.heap.size w4 w0 → Calls Tryz.prog 12 #[.agg #[.int .i64 z.office, .int .i64 z.why, .slice alz z.claims.length lcz, .int .i64 z.prom.office, .int .i64 z.prom.since, .int .i64 z.prom.till, .int .i64 z.prom.litres, .int .i64 z.prom.e, .int .i64 z.prom.s], .slice ac l.length nc, .slice av vows.length nv] w0 fun e w' => e = .returned (.bool true) ∧ Below w0.heap.size w0 w') := Lib.hid (fun w0 hb => by have hbw := HBW.out.trans (hb.mono HBW.out.size); have h := listed_any z.office z.why z.claims z.prom alz ac av lcz nc nv l vows w0 (huz.below stays_RC hb) (HC.out.below stays_RC hbw) (HW.out.below stays_RP hbw) hzl hcl hvl; rw [show listedB ⟨z.office, z.why, z.claims, z.prom⟩ l vows = true from hlsz] at h; exact h)
        have hlt' : (k : Int) < (Y.length : Int) := by omega
        have HZ := Lib.hid hz
        clear hrz huz hp1 hp2 hp3 hlsz hzl hbo hzm hz
        go_upto_region 8 with fail
        go_cut [14] (fun sv wx => sv = .bool true ∧ RowsS w4 [] wx)
        case first =>
          by_cases hk0 : k = 0
          · have hkz : ((k : Int) == 0) = true := by rw [beq_iff_eq]; omega
            have hkzi : decide ((k : Int) = 0) = true := decide_eq_true (by omega)
            have hkzn : decide (k = 0) = true := decide_eq_true hk0
            have hkzm : (k == 0) = true := by rw [beq_iff_eq]; exact hk0
            clear hk0
            refine wp_region_noPanic ?_
            refine wp_region_held_drew (S := fun cw => RowsS w4 [] cw) (by kernel_rfl) (HRK.out.drew) (fun hHeld => ?_)
            refine tn 0 ?_
            try simp only [Act.put, aL1, aL2, aL3]
            refine tn 1 ?_
            try simp only [Act.put, aL1, aL2, aL3]
            refine tn 2 ?_
            try simp only [Act.put, aL1, aL2, aL3]
            refine skn 30 [(3, some 48), (4, some 49), (5, some 50), (6, some 51), (7, some 52), (8, some 53), (9, some 54), (10, some 55), (11, some 56), (12, some 57), (13, some 58), (14, some 59)] ?_
            simp only [List.foldl_cons, List.foldl_nil, Act.put, aL1, aL2, aL3]
            refine tn 15 ?_
            try simp only [Act.put, aL1, aL2, aL3]
            refine tn 16 ?_
            try simp only [Act.put, aL1, aL2, aL3]
            refine skn 2 [(17, some 62), (18, some 63), (19, some 64), (20, some 65), (21, some 66), (22, some 67), (23, some 68), (24, some 69), (25, some 70), (26, some 71), (27, some 72), (28, some 73), (29, some 74), (30, some 75), (31, some 76), (32, some 77), (33, some 78), (34, some 79), (35, some 80), (36, some 81), (37, some 82), (38, some 83), (39, some 84), (40, some 85), (41, some 86), (42, some 87)] ?_
            simp only [List.foldl_cons, List.foldl_nil, Act.put, aL1, aL2, aL3]
            refine tn 43 ?_
            try simp only [Act.put, aL1, aL2, aL3]
            refine tn 44 ?_
            try simp only [Act.put, aL1, aL2, aL3]
            refine rdone (NoPanic.normal ?_)
            go_wp2_with fail
            go_meet
            exact ⟨rfl, hHeld⟩
          · obtain ⟨m, hm⟩ : ∃ m : Nat, k = m + 1 := ⟨k - 1, by omega⟩
            have hsb : IntKind.i64.wrap ((k : Int) - 1) = (m : Int) := by rw [show (k : Int) - 1 = (m : Int) by omega]; exact IntWalk.i64_in _ (by omega)
            have HSB := Lib.hid hsb
            obtain ⟨y, hy⟩ : ∃ y, Y[m]? = some y := ⟨_, List.getElem?_eq_getElem (by omega)⟩
            have hlw : ltOW y z := by
              have h := List.pairwise_iff_getElem.1 HSo.out m k (by omega) hlt (by omega)
              have e1 := (List.getElem?_eq_some_iff.1 hy).2
              have e2 := (List.getElem?_eq_some_iff.1 HZ.out).2
              rw [e1, e2] at h
              exact h
            obtain ⟨bx2, oz2, csy, hbe, -, -, hry, uy, rfl, -, huy⟩ := HL1.out.at hy
            simp only [Option.some.injEq, Addr.mk.injEq, and_true] at hbe
            obtain ⟨rfl, rfl⟩ := hbe
            obtain ⟨aly, lcy, rfl, -, -⟩ := huy.slice
            have HYc : Hid (w4.rangeAt bx (oz + m * 9) [.int .i64 y.office, .int .i64 y.why, .slice aly y.claims.length lcy, .int .i64 y.prom.office, .int .i64 y.prom.since, .int .i64 y.prom.till, .int .i64 y.prom.litres, .int .i64 y.prom.e, .int .i64 y.prom.s]) := Lib.hid hry
            have hmt : (m : Int) < (Y.length : Int) := by omega
            have hmtn : m < Y.length := by omega
            have hkz : ((k : Int) == 0) = false := by rw [beq_eq_false_iff_ne]; omega
            have hkzi : decide ((k : Int) = 0) = false := decide_eq_false (by omega)
            have hkzn : decide (k = 0) = false := decide_eq_false hk0
            have hkzm : (k == 0) = false := by rw [beq_eq_false_iff_ne]; exact hk0
            clear hk0
            clear hsb hy hry huy hm
            rcases hlw with hlw | ⟨hle, hlw⟩
            · have qA : decide (y.office < z.office) = true := decide_eq_true hlw
              have qB : True := trivial
              clear hlw
              refine wp_region_noPanic ?_
              refine wp_region_held_drew (S := fun cw => RowsS w4 [] cw) (by kernel_rfl) (HRK.out.drew) (fun hHeld => ?_)
              refine tn 0 ?_
              try simp only [Act.put, aL1, aL2, aL3]
              refine tn 1 ?_
              try simp only [Act.put, aL1, aL2, aL3]
              refine tn 2 ?_
              try simp only [Act.put, aL1, aL2, aL3]
              refine tn 3 ?_
              try simp only [Act.put, aL1, aL2, aL3]
              refine tn 4 ?_
              try simp only [Act.put, aL1, aL2, aL3]
              refine tn 5 ?_ (hx := fun wz hSw => by have e4 : IntKind.i64.wrap ((k : Int) - 1) = (m : Int) := HSB.out; go_simp; try with_reducible rfl)
              try simp only [Act.put, aL1, aL2, aL3]
              refine tn 6 ?_
              try simp only [Act.put, aL1, aL2, aL3]
              refine tn 7 ?_
              try simp only [Act.put, aL1, aL2, aL3]
              refine tn 8 ?_ (hx := fun wz hSw => by have e4 := (rangeAt_below HYc.out hSw.below hbY) 0 (.int .i64 y.office) rfl; rw [Nat.add_zero] at e4; go_simp; try with_reducible rfl)
              try simp only [Act.put, aL1, aL2, aL3]
              refine tn 9 ?_
              try simp only [Act.put, aL1, aL2, aL3]
              refine tn 10 ?_
              try simp only [Act.put, aL1, aL2, aL3]
              refine tn 11 ?_
              try simp only [Act.put, aL1, aL2, aL3]
              refine tn 12 ?_
              try simp only [Act.put, aL1, aL2, aL3]
              refine tn 13 ?_ (hx := fun wz hSw => by have e4 := (rangeAt_below HZc.out hSw.below hbY) 0 (.int .i64 z.office) rfl; rw [Nat.add_zero] at e4; go_simp; try with_reducible rfl)
              try simp only [Act.put, aL1, aL2, aL3]
              refine tn 14 ?_
              try simp only [Act.put, aL1, aL2, aL3]
              refine tn 15 ?_
              try simp only [Act.put, aL1, aL2, aL3]
              refine tn 16 ?_
              try simp only [Act.put, aL1, aL2, aL3]
              refine skn 2 [(17, some 62), (18, some 63), (19, some 64), (20, some 65), (21, some 66), (22, some 67), (23, some 68), (24, some 69), (25, some 70), (26, some 71), (27, some 72), (28, some 73), (29, some 74), (30, some 75), (31, some 76), (32, some 77), (33, some 78), (34, some 79), (35, some 80), (36, some 81), (37, some 82), (38, some 83), (39, some 84), (40, some 85), (41, some 86), (42, some 87)] ?_
              simp only [List.foldl_cons, List.foldl_nil, Act.put, aL1, aL2, aL3]
              refine tn 43 ?_
              try simp only [Act.put, aL1, aL2, aL3]
              refine tn 44 ?_
              try simp only [Act.put, aL1, aL2, aL3]
              refine rdone (NoPanic.normal ?_)
              go_wp2_with fail
              go_meet
              exact ⟨rfl, hHeld⟩
            · have qA : decide (y.office < z.office) = false := decide_eq_false (by omega)
              have qB : (y.office == z.office) = true := by rw [beq_iff_eq]; exact hle
              have qC : decide (y.why < z.why) = true := decide_eq_true hlw
              clear hlw hle
              refine wp_region_noPanic ?_
              refine wp_region_held_drew (S := fun cw => RowsS w4 [] cw) (by kernel_rfl) (HRK.out.drew) (fun hHeld => ?_)
              refine tn 0 ?_
              try simp only [Act.put, aL1, aL2, aL3]
              refine tn 1 ?_
              try simp only [Act.put, aL1, aL2, aL3]
              refine tn 2 ?_
              try simp only [Act.put, aL1, aL2, aL3]
              refine tn 3 ?_
              try simp only [Act.put, aL1, aL2, aL3]
              refine tn 4 ?_
              try simp only [Act.put, aL1, aL2, aL3]
              refine tn 5 ?_ (hx := fun wz hSw => by have e4 : IntKind.i64.wrap ((k : Int) - 1) = (m : Int) := HSB.out; go_simp; try with_reducible rfl)
              try simp only [Act.put, aL1, aL2, aL3]
              refine tn 6 ?_
              try simp only [Act.put, aL1, aL2, aL3]
              refine tn 7 ?_
              try simp only [Act.put, aL1, aL2, aL3]
              refine tn 8 ?_ (hx := fun wz hSw => by have e4 := (rangeAt_below HYc.out hSw.below hbY) 0 (.int .i64 y.office) rfl; rw [Nat.add_zero] at e4; go_simp; try with_reducible rfl)
              try simp only [Act.put, aL1, aL2, aL3]
              refine tn 9 ?_
              try simp only [Act.put, aL1, aL2, aL3]
              refine tn 10 ?_
              try simp only [Act.put, aL1, aL2, aL3]
              refine tn 11 ?_
              try simp only [Act.put, aL1, aL2, aL3]
              refine tn 12 ?_
              try simp only [Act.put, aL1, aL2, aL3]
              refine tn 13 ?_ (hx := fun wz hSw => by have e4 := (rangeAt_below HZc.out hSw.below hbY) 0 (.int .i64 z.office) rfl; rw [Nat.add_zero] at e4; go_simp; try with_reducible rfl)
              try simp only [Act.put, aL1, aL2, aL3]
              refine tn 14 ?_
              try simp only [Act.put, aL1, aL2, aL3]
              refine tn 15 ?_
              try simp only [Act.put, aL1, aL2, aL3]
              refine tn 16 ?_
              try simp only [Act.put, aL1, aL2, aL3]
              refine tn 17 ?_
              try simp only [Act.put, aL1, aL2, aL3]
              refine tn 18 ?_
              try simp only [Act.put, aL1, aL2, aL3]
              refine tn 19 ?_ (hx := fun wz hSw => by have e4 : IntKind.i64.wrap ((k : Int) - 1) = (m : Int) := HSB.out; go_simp; try with_reducible rfl)
              try simp only [Act.put, aL1, aL2, aL3]
              refine tn 20 ?_
              try simp only [Act.put, aL1, aL2, aL3]
              refine tn 21 ?_
              try simp only [Act.put, aL1, aL2, aL3]
              refine tn 22 ?_ (hx := fun wz hSw => by have e4 := (rangeAt_below HYc.out hSw.below hbY) 0 (.int .i64 y.office) rfl; rw [Nat.add_zero] at e4; go_simp; try with_reducible rfl)
              try simp only [Act.put, aL1, aL2, aL3]
              refine tn 23 ?_
              try simp only [Act.put, aL1, aL2, aL3]
              refine tn 24 ?_
              try simp only [Act.put, aL1, aL2, aL3]
              refine tn 25 ?_
              try simp only [Act.put, aL1, aL2, aL3]
              refine tn 26 ?_
              try simp only [Act.put, aL1, aL2, aL3]
              refine tn 27 ?_ (hx := fun wz hSw => by have e4 := (rangeAt_below HZc.out hSw.below hbY) 0 (.int .i64 z.office) rfl; rw [Nat.add_zero] at e4; go_simp; try with_reducible rfl)
              try simp only [Act.put, aL1, aL2, aL3]
              refine tn 28 ?_
              try simp only [Act.put, aL1, aL2, aL3]
              refine tn 29 ?_
              try simp only [Act.put, aL1, aL2, aL3]
              refine tn 30 ?_
              try simp only [Act.put, aL1, aL2, aL3]
              refine tn 31 ?_
              try simp only [Act.put, aL1, aL2, aL3]
              refine tn 32 ?_ (hx := fun wz hSw => by have e4 : IntKind.i64.wrap ((k : Int) - 1) = (m : Int) := HSB.out; go_simp; try with_reducible rfl)
              try simp only [Act.put, aL1, aL2, aL3]
              refine tn 33 ?_
              try simp only [Act.put, aL1, aL2, aL3]
              refine tn 34 ?_
              try simp only [Act.put, aL1, aL2, aL3]
              refine tn 35 ?_ (hx := fun wz hSw => by have e4 := (rangeAt_below HYc.out hSw.below hbY) 1 (.int .i64 y.why) rfl; go_simp; try with_reducible rfl)
              try simp only [Act.put, aL1, aL2, aL3]
              refine tn 36 ?_
              try simp only [Act.put, aL1, aL2, aL3]
              refine tn 37 ?_
              try simp only [Act.put, aL1, aL2, aL3]
              refine tn 38 ?_
              try simp only [Act.put, aL1, aL2, aL3]
              refine tn 39 ?_
              try simp only [Act.put, aL1, aL2, aL3]
              refine tn 40 ?_ (hx := fun wz hSw => by have e4 := (rangeAt_below HZc.out hSw.below hbY) 1 (.int .i64 z.why) rfl; go_simp; try with_reducible rfl)
              try simp only [Act.put, aL1, aL2, aL3]
              refine tn 41 ?_
              try simp only [Act.put, aL1, aL2, aL3]
              refine tn 42 ?_
              try simp only [Act.put, aL1, aL2, aL3]
              refine tn 43 ?_
              try simp only [Act.put, aL1, aL2, aL3]
              refine tn 44 ?_
              try simp only [Act.put, aL1, aL2, aL3]
              refine rdone (NoPanic.normal ?_)
              go_wp2_with fail
              go_meet
              exact ⟨rfl, hHeld⟩
        obtain ⟨rfl, hrl⟩ := hcut
        have HRL := Lib.hid hrl
        clear hrl HRK
        go_upto_region 9 with fail
        refine wp_region_noPanic ?_
        refine wp_region_held_drew (S := fun cw => RowsS w4 [] cw) (by kernel_rfl) (HRL.out.drew) (fun hHeld => ?_)
        refine tn 0 ?_ (hx := fun wz hSw => by refine exec_load_row 31 ?_ ?_ _ ?_ 31 _ _ _ (hSw.oldRow HBas) undBn rfl infoBn; rotate_left 1; exact rfl; exact rfl)
        try simp only [Act.put, aL1, aL2, aL3]
        refine tn 2 ?_
        try simp only [Act.put, aL1, aL2, aL3]
        refine tn 3 ?_
        try simp only [Act.put, aL1, aL2, aL3]
        refine tn 4 ?_
        try simp only [Act.put, aL1, aL2, aL3]
        refine tn 5 ?_
        try simp only [Act.put, aL1, aL2, aL3]
        refine tn 6 ?_ (hx := fun wz hSw => by refine exec_load_range 40 _ rfl _ _ ?_ _ _ (rangeAt_below HZc.out hSw.below hbY) undBl rfl infoBl; exact rfl)
        try simp only [Act.put, aL1, aL2, aL3]
        refine rd1 1 (fun K hK => ?_)
        go_simp
        refine (publics_any _).mono ?_
        rintro e w' ⟨bp, rfl, hZP, hgeP, hb⟩
        refine hK.out _ _ (hHeld.step hb) (fun hHeld => ?_)
        clear hK K
        try simp only [Act.put, aL1, aL2, aL3]
        refine rd1 7 (fun K hK => ?_)
        go_simp
        refine (HCk.out _ _ hHeld.below hZP).mono ?_
        rintro e w' ⟨rfl, hb⟩
        have hZP := (hb.block bp (blk_lt hZP)).trans hZP
        refine hK.out _ _ (hHeld.step hb) (fun hHeld => ?_)
        clear hK K
        try simp only [Act.put, aL1, aL2, aL3]
        refine tn 8 ?_
        try simp only [Act.put, aL1, aL2, aL3]
        refine tn 9 ?_
        try simp only [Act.put, aL1, aL2, aL3]
        refine tn 10 ?_
        try simp only [Act.put, aL1, aL2, aL3]
        refine tn 11 ?_
        try simp only [Act.put, aL1, aL2, aL3]
        refine tn 12 ?_
        try simp only [Act.put, aL1, aL2, aL3]
        refine tn 13 ?_ (hx := fun wz hSw => by refine exec_load_range 40 _ rfl _ _ ?_ _ _ (rangeAt_below HZc.out hSw.below hbY) undBl rfl infoBl; exact rfl)
        try simp only [Act.put, aL1, aL2, aL3]
        refine tn 14 ?_
        try simp only [Act.put, aL1, aL2, aL3]
        refine tn 15 ?_
        try simp only [Act.put, aL1, aL2, aL3]
        refine rd1 16 (fun K hK => ?_)
        go_simp
        refine (HLs.out _ hHeld.below).mono ?_
        rintro e w' ⟨rfl, hb⟩
        have hZP := (hb.block bp (blk_lt hZP)).trans hZP
        refine hK.out _ _ (hHeld.step hb) (fun hHeld => ?_)
        clear hK K
        try simp only [Act.put, aL1, aL2, aL3]
        refine tn 17 ?_
        try simp only [Act.put, aL1, aL2, aL3]
        refine tn 18 ?_
        try simp only [Act.put, aL1, aL2, aL3]
        refine tn 19 ?_
        try simp only [Act.put, aL1, aL2, aL3]
        refine tn 20 ?_
        try simp only [Act.put, aL1, aL2, aL3]
        refine tn 21 ?_
        try simp only [Act.put, aL1, aL2, aL3]
        refine tn 22 ?_
        try simp only [Act.put, aL1, aL2, aL3]
        refine rdone (NoPanic.normal ?_)
        go_wp2_with fail
        go_roundw
        case rel => exact ⟨k + 1, by omega, by go_num, hHeld⟩
        case measure => simp [Go.RowKit.intOf]; omega
      · obtain rfl : k = Y.length := by omega
        have hlt' : ¬ (Y.length : Int) < (Y.length : Int) := by omega
        clear hlt hk
        have hhx : ∀ w0, Below w4.heap.size w4 w0 → Calls Tryz.prog 13 #[.slice va1 Y.length vc1, .int .i64 xo, .int .i64 xw] w0 (RetB (hasB Y xo xw) w0) := fun w0 hb => has_any Y _ xo xw w0 (HL1.out.below stays_RBl hb) (by omega)
        cases hck : checkB (judgeV err room PSK pubs) ⟨xo, xw, xc, xp⟩ with
        | true =>
          have HCx : Hid (∀ (w0 : World) (bp : Nat), Below w4.heap.size w4 w0 → w0.heap[bp]? = some (.cells #[.int .i64 (pk 0), .int .i64 (pk 1), .int .i64 (pk 2)] 3 (0, 0)) → Calls Tryz.prog 11 #[.agg #[.string x.nm, .slice x.a1 x.n1 x.c1, .int .i64 x.k, .slice x.a3 x.n3 x.c3, .slice x.a4 x.n4 x.c4, .slice x.a5 x.n5 x.c5, .slice x.a6 x.n6 x.c6, .slice x.a7 x.n7 x.c7, .slice x.a8 x.n8 x.c8, .slice ar 3 cr, .int .i64 err], .slice (some ⟨bp, 0, none⟩) 3 3, .slice aq pubs.length nq, .agg #[.int .i64 xo, .int .i64 xw, .slice al xc.length lc, .int .i64 xp.office, .int .i64 xp.since, .int .i64 xp.till, .int .i64 xp.litres, .int .i64 xp.e, .int .i64 xp.s]] w0 fun e w' => e = .returned (.bool true) ∧ Below w0.heap.size w0 w') := Lib.hid (fun w0 bp hb hp => by have hbw := HBW.out.trans (hb.mono HBW.out.size); have h := check_any x ar (some ⟨bp, 0, none⟩) cr 3 err room PSK (.slice aq pubs.length nq) pubs xo xw xc xp al lc w0 (gjin (HRm.out.below stays_int hbw) h3 hee hrr hp (HQ.out.below stays_Public hbw) hql) (HX.out.below stays_RC hbw) (fun c hc => ⟨(good_of HX.out hc).1, HXp.out c hc⟩) hxcl hO (HGl.out.below hbw HGl.out.size) (HML.out.up hbw); rw [hck] at h; exact h)
          cases hls : listedB ⟨xo, xw, xc, xp⟩ l vows with
          | true =>
            have hhs := HAl.out hck hls
            rw [hhs] at hhx
            have HHx : Hid (∀ w0, Below w4.heap.size w4 w0 → Calls Tryz.prog 13 #[.slice va1 Y.length vc1, .int .i64 xo, .int .i64 xw] w0 fun e w' => e = .returned (.bool true) ∧ Below w0.heap.size w0 w') := Lib.hid hhx
            have HLx : Hid (∀ w0, Below w4.heap.size w4 w0 → Calls Tryz.prog 12 #[.agg #[.int .i64 xo, .int .i64 xw, .slice al xc.length lc, .int .i64 xp.office, .int .i64 xp.since, .int .i64 xp.till, .int .i64 xp.litres, .int .i64 xp.e, .int .i64 xp.s], .slice ac l.length nc, .slice av vows.length nv] w0 fun e w' => e = .returned (.bool true) ∧ Below w0.heap.size w0 w') := Lib.hid (fun w0 hb => by have hbw := HBW.out.trans (hb.mono HBW.out.size); have h := listed_any xo xw xc xp al ac av lc nc nv l vows w0 (HX.out.below stays_RC hbw) (HC.out.below stays_RC hbw) (HW.out.below stays_RP hbw) hxcl hcl hvl; rw [hls] at h; exact h)
            clear hck hls hhs hhx
            go_upto_region 11 with fail
            refine wp_region_noPanic ?_
            refine wp_region_held_drew (S := fun cw => RowsS w4 [] cw) (by kernel_rfl) (HRK.out.drew) (fun hHeld => ?_)
            refine tn 0 ?_ (hx := fun wz hSw => by refine exec_load_row 31 ?_ ?_ _ ?_ 31 _ _ _ (hSw.oldRow HBas) undBn rfl infoBn; rotate_left 1; exact rfl; exact rfl)
            try simp only [Act.put, aL1, aL2, aL3]
            refine tn 2 ?_
            try simp only [Act.put, aL1, aL2, aL3]
            refine tn 3 ?_ (hx := fun wz hSw => by refine exec_load_row 40 ?_ ?_ _ ?_ 40 _ _ _ (hSw.oldRow HXr) undBl rfl infoBl; rotate_left 1; exact rfl; exact rfl)
            try simp only [Act.put, aL1, aL2, aL3]
            refine rd1 1 (fun K hK => ?_)
            go_simp
            refine (publics_any _).mono ?_
            rintro e w' ⟨bp, rfl, hZP, hgeP, hb⟩
            refine hK.out _ _ (hHeld.step hb) (fun hHeld => ?_)
            clear hK K
            try simp only [Act.put, aL1, aL2, aL3]
            refine rd1 4 (fun K hK => ?_)
            go_simp
            refine (HCx.out _ _ hHeld.below hZP).mono ?_
            rintro e w' ⟨rfl, hb⟩
            have hZP := (hb.block bp (blk_lt hZP)).trans hZP
            refine hK.out _ _ (hHeld.step hb) (fun hHeld => ?_)
            clear hK K
            try simp only [Act.put, aL1, aL2, aL3]
            refine tn 5 ?_
            try simp only [Act.put, aL1, aL2, aL3]
            refine tn 6 ?_ (hx := fun wz hSw => by refine exec_load_row 40 ?_ ?_ _ ?_ 40 _ _ _ (hSw.oldRow HXr) undBl rfl infoBl; rotate_left 1; exact rfl; exact rfl)
            try simp only [Act.put, aL1, aL2, aL3]
            refine tn 7 ?_
            try simp only [Act.put, aL1, aL2, aL3]
            refine tn 8 ?_
            try simp only [Act.put, aL1, aL2, aL3]
            refine rd1 9 (fun K hK => ?_)
            go_simp
            refine (HLx.out _ hHeld.below).mono ?_
            rintro e w' ⟨rfl, hb⟩
            have hZP := (hb.block bp (blk_lt hZP)).trans hZP
            refine hK.out _ _ (hHeld.step hb) (fun hHeld => ?_)
            clear hK K
            try simp only [Act.put, aL1, aL2, aL3]
            refine tn 10 ?_
            try simp only [Act.put, aL1, aL2, aL3]
            refine tn 11 ?_
            try simp only [Act.put, aL1, aL2, aL3]
            refine tn 12 ?_
            try simp only [Act.put, aL1, aL2, aL3]
            refine tn 13 ?_
            try simp only [Act.put, aL1, aL2, aL3]
            refine tn 14 ?_ (hx := fun wz hSw => by have e4 := hSw.old HXr 0 rfl; go_simp; try with_reducible rfl)
            try simp only [Act.put, aL1, aL2, aL3]
            refine tn 15 ?_
            try simp only [Act.put, aL1, aL2, aL3]
            refine tn 16 ?_ (hx := fun wz hSw => by have e4 := hSw.old HXr 1 rfl; go_simp; try with_reducible rfl)
            try simp only [Act.put, aL1, aL2, aL3]
            refine rd1 17 (fun K hK => ?_)
            go_simp
            refine (HHx.out _ hHeld.below).mono ?_
            rintro e w' ⟨rfl, hb⟩
            have hZP := (hb.block bp (blk_lt hZP)).trans hZP
            refine hK.out _ _ (hHeld.step hb) (fun hHeld => ?_)
            clear hK K
            try simp only [Act.put, aL1, aL2, aL3]
            refine tn 18 ?_
            try simp only [Act.put, aL1, aL2, aL3]
            refine tn 19 ?_
            try simp only [Act.put, aL1, aL2, aL3]
            refine rdone (NoPanic.normal ?_)
            go_wp2_with fail
            go_ret
            exact ⟨rfl, HBW.out.trans (hHeld.below.mono HBW.out.size)⟩
          | false =>
            have HLx : Hid (∀ w0, Below w4.heap.size w4 w0 → Calls Tryz.prog 12 #[.agg #[.int .i64 xo, .int .i64 xw, .slice al xc.length lc, .int .i64 xp.office, .int .i64 xp.since, .int .i64 xp.till, .int .i64 xp.litres, .int .i64 xp.e, .int .i64 xp.s], .slice ac l.length nc, .slice av vows.length nv] w0 fun e w' => e = .returned (.bool false) ∧ Below w0.heap.size w0 w') := Lib.hid (fun w0 hb => by have hbw := HBW.out.trans (hb.mono HBW.out.size); have h := listed_any xo xw xc xp al ac av lc nc nv l vows w0 (HX.out.below stays_RC hbw) (HC.out.below stays_RC hbw) (HW.out.below stays_RP hbw) hxcl hcl hvl; rw [hls] at h; exact h)
            clear hck hls hhx
            go_upto_region 11 with fail
            refine wp_region_noPanic ?_
            refine wp_region_held_drew (S := fun cw => RowsS w4 [] cw) (by kernel_rfl) (HRK.out.drew) (fun hHeld => ?_)
            refine tn 0 ?_ (hx := fun wz hSw => by refine exec_load_row 31 ?_ ?_ _ ?_ 31 _ _ _ (hSw.oldRow HBas) undBn rfl infoBn; rotate_left 1; exact rfl; exact rfl)
            try simp only [Act.put, aL1, aL2, aL3]
            refine tn 2 ?_
            try simp only [Act.put, aL1, aL2, aL3]
            refine tn 3 ?_ (hx := fun wz hSw => by refine exec_load_row 40 ?_ ?_ _ ?_ 40 _ _ _ (hSw.oldRow HXr) undBl rfl infoBl; rotate_left 1; exact rfl; exact rfl)
            try simp only [Act.put, aL1, aL2, aL3]
            refine rd1 1 (fun K hK => ?_)
            go_simp
            refine (publics_any _).mono ?_
            rintro e w' ⟨bp, rfl, hZP, hgeP, hb⟩
            refine hK.out _ _ (hHeld.step hb) (fun hHeld => ?_)
            clear hK K
            try simp only [Act.put, aL1, aL2, aL3]
            refine rd1 4 (fun K hK => ?_)
            go_simp
            refine (HCx.out _ _ hHeld.below hZP).mono ?_
            rintro e w' ⟨rfl, hb⟩
            have hZP := (hb.block bp (blk_lt hZP)).trans hZP
            refine hK.out _ _ (hHeld.step hb) (fun hHeld => ?_)
            clear hK K
            try simp only [Act.put, aL1, aL2, aL3]
            refine tn 5 ?_
            try simp only [Act.put, aL1, aL2, aL3]
            refine tn 6 ?_ (hx := fun wz hSw => by refine exec_load_row 40 ?_ ?_ _ ?_ 40 _ _ _ (hSw.oldRow HXr) undBl rfl infoBl; rotate_left 1; exact rfl; exact rfl)
            try simp only [Act.put, aL1, aL2, aL3]
            refine tn 7 ?_
            try simp only [Act.put, aL1, aL2, aL3]
            refine tn 8 ?_
            try simp only [Act.put, aL1, aL2, aL3]
            refine rd1 9 (fun K hK => ?_)
            go_simp
            refine (HLx.out _ hHeld.below).mono ?_
            rintro e w' ⟨rfl, hb⟩
            have hZP := (hb.block bp (blk_lt hZP)).trans hZP
            refine hK.out _ _ (hHeld.step hb) (fun hHeld => ?_)
            clear hK K
            try simp only [Act.put, aL1, aL2, aL3]
            refine tn 10 ?_
            try simp only [Act.put, aL1, aL2, aL3]
            refine tn 11 ?_
            try simp only [Act.put, aL1, aL2, aL3]
            refine skn 1 [(12, some 124), (13, some 125), (14, some 126), (15, some 127), (16, some 128), (17, some 129), (18, some 130)] ?_
            simp only [List.foldl_cons, List.foldl_nil, Act.put, aL1, aL2, aL3]
            refine tn 19 ?_
            try simp only [Act.put, aL1, aL2, aL3]
            refine rdone (NoPanic.normal ?_)
            go_wp2_with fail
            go_ret
            exact ⟨rfl, HBW.out.trans (hHeld.below.mono HBW.out.size)⟩
        | false =>
          have HCx : Hid (∀ (w0 : World) (bp : Nat), Below w4.heap.size w4 w0 → w0.heap[bp]? = some (.cells #[.int .i64 (pk 0), .int .i64 (pk 1), .int .i64 (pk 2)] 3 (0, 0)) → Calls Tryz.prog 11 #[.agg #[.string x.nm, .slice x.a1 x.n1 x.c1, .int .i64 x.k, .slice x.a3 x.n3 x.c3, .slice x.a4 x.n4 x.c4, .slice x.a5 x.n5 x.c5, .slice x.a6 x.n6 x.c6, .slice x.a7 x.n7 x.c7, .slice x.a8 x.n8 x.c8, .slice ar 3 cr, .int .i64 err], .slice (some ⟨bp, 0, none⟩) 3 3, .slice aq pubs.length nq, .agg #[.int .i64 xo, .int .i64 xw, .slice al xc.length lc, .int .i64 xp.office, .int .i64 xp.since, .int .i64 xp.till, .int .i64 xp.litres, .int .i64 xp.e, .int .i64 xp.s]] w0 fun e w' => e = .returned (.bool false) ∧ Below w0.heap.size w0 w') := Lib.hid (fun w0 bp hb hp => by have hbw := HBW.out.trans (hb.mono HBW.out.size); have h := check_any x ar (some ⟨bp, 0, none⟩) cr 3 err room PSK (.slice aq pubs.length nq) pubs xo xw xc xp al lc w0 (gjin (HRm.out.below stays_int hbw) h3 hee hrr hp (HQ.out.below stays_Public hbw) hql) (HX.out.below stays_RC hbw) (fun c hc => ⟨(good_of HX.out hc).1, HXp.out c hc⟩) hxcl hO (HGl.out.below hbw HGl.out.size) (HML.out.up hbw); rw [hck] at h; exact h)
          clear hck hhx
          go_upto_region 11 with fail
          refine wp_region_noPanic ?_
          refine wp_region_held_drew (S := fun cw => RowsS w4 [] cw) (by kernel_rfl) (HRK.out.drew) (fun hHeld => ?_)
          refine tn 0 ?_ (hx := fun wz hSw => by refine exec_load_row 31 ?_ ?_ _ ?_ 31 _ _ _ (hSw.oldRow HBas) undBn rfl infoBn; rotate_left 1; exact rfl; exact rfl)
          try simp only [Act.put, aL1, aL2, aL3]
          refine tn 2 ?_
          try simp only [Act.put, aL1, aL2, aL3]
          refine tn 3 ?_ (hx := fun wz hSw => by refine exec_load_row 40 ?_ ?_ _ ?_ 40 _ _ _ (hSw.oldRow HXr) undBl rfl infoBl; rotate_left 1; exact rfl; exact rfl)
          try simp only [Act.put, aL1, aL2, aL3]
          refine rd1 1 (fun K hK => ?_)
          go_simp
          refine (publics_any _).mono ?_
          rintro e w' ⟨bp, rfl, hZP, hgeP, hb⟩
          refine hK.out _ _ (hHeld.step hb) (fun hHeld => ?_)
          clear hK K
          try simp only [Act.put, aL1, aL2, aL3]
          refine rd1 4 (fun K hK => ?_)
          go_simp
          refine (HCx.out _ _ hHeld.below hZP).mono ?_
          rintro e w' ⟨rfl, hb⟩
          have hZP := (hb.block bp (blk_lt hZP)).trans hZP
          refine hK.out _ _ (hHeld.step hb) (fun hHeld => ?_)
          clear hK K
          try simp only [Act.put, aL1, aL2, aL3]
          refine tn 5 ?_
          try simp only [Act.put, aL1, aL2, aL3]
          refine skn 10 [(6, some 118), (7, some 119), (8, some 120), (9, some 121)] ?_
          simp only [List.foldl_cons, List.foldl_nil, Act.put, aL1, aL2, aL3]
          refine tn 10 ?_
          try simp only [Act.put, aL1, aL2, aL3]
          refine tn 11 ?_
          try simp only [Act.put, aL1, aL2, aL3]
          refine skn 1 [(12, some 124), (13, some 125), (14, some 126), (15, some 127), (16, some 128), (17, some 129), (18, some 130)] ?_
          simp only [List.foldl_cons, List.foldl_nil, Act.put, aL1, aL2, aL3]
          refine tn 19 ?_
          try simp only [Act.put, aL1, aL2, aL3]
          refine rdone (NoPanic.normal ?_)
          go_wp2_with fail
          go_ret
          exact ⟨rfl, HBW.out.trans (hHeld.below.mono HBW.out.size)⟩
end Go.Proofs.YtjbjpkhibcnenaaGreatDoor

