/- bournelaw46.AuditGrows: the core. -/
import Derived.Test.YtjbjpkhibcnenaaGreatDoorAPre
namespace Go.Proofs.YtjbjpkhibcnenaaGreatDoor
open Go.RowKit
set_option maxRecDepth 100000 in
set_option maxHeartbeats 16000000 in
theorem grows_core (x : BsX) (ar aq a1 a2 : Option Addr) (cr nq n1 n2 : Nat) (err : Int) (room : List Int) (pubs : List PublicV) (first more : List CV) (w : World) (hR : LArg RInt 1 (.slice ar room.length cr) room w) (hQ : LArg RPublic 4 (.slice aq pubs.length nq) pubs w) (h1 : LArg RC 8 (.slice a1 first.length n1) first w) (h2 : LArg RC 8 (.slice a2 more.length n2) more w) (hg : Glob w) (hml : MLen w) :
    Calls Tryz.prog 4 #[.agg #[.string x.nm, .slice x.a1 x.n1 x.c1, .int .i64 x.k, .slice x.a3 x.n3 x.c3, .slice x.a4 x.n4 x.c4, .slice x.a5 x.n5 x.c5, .slice x.a6 x.n6 x.c6, .slice x.a7 x.n7 x.c7, .slice x.a8 x.n8 x.c8, .slice ar room.length cr, .int .i64 err], .slice aq pubs.length nq, .slice a1 first.length n1, .slice a2 more.length n2] w (RetB true w) := by
  have HGl := Lib.hid hg
  have HML := Lib.hid hml
  have HQ := Lib.hid hQ
  have HC1 := Lib.hid h1
  have HC2 := Lib.hid h2
  clear hg hml hQ h1 h2
  by_cases hpl : plainB room err = true
  rotate_left 1
  · rw [Bool.not_eq_true] at hpl
    have HPl : Hid (∀ w0, Below w.heap.size w w0 → Calls Tryz.prog 7 #[.agg #[.string x.nm, .slice x.a1 x.n1 x.c1, .int .i64 x.k, .slice x.a3 x.n3 x.c3, .slice x.a4 x.n4 x.c4, .slice x.a5 x.n5 x.c5, .slice x.a6 x.n6 x.c6, .slice x.a7 x.n7 x.c7, .slice x.a8 x.n8 x.c8, .slice ar room.length cr, .int .i64 err]] w0 fun e w' => e = .returned (.bool false) ∧ Below w0.heap.size w0 w') := Lib.hid (fun w0 hb => by have h := plain_any x ar cr err room w0 (hR.below stays_int hb); rw [hpl] at h; exact h)
    clear hpl
    have HR := Lib.hid ((RowsS.nil w).alloc (.cells #[.string x.nm, .slice x.a1 x.n1 x.c1, .int .i64 x.k, .slice x.a3 x.n3 x.c3, .slice x.a4 x.n4 x.c4, .slice x.a5 x.n5 x.c5, .slice x.a6 x.n6 x.c6, .slice x.a7 x.n7 x.c7, .slice x.a8 x.n8 x.c8, .slice ar room.length cr, .int .i64 err] 31))
    go_enter Tryz.func4, Tryz.ntmps4
    go_upto_region 1 with fail
    generalize w.alloc (.cells #[.string x.nm, .slice x.a1 x.n1 x.c1, .int .i64 x.k, .slice x.a3 x.n3 x.c3, .slice x.a4 x.n4 x.c4, .slice x.a5 x.n5 x.c5, .slice x.a6 x.n6 x.c6, .slice x.a7 x.n7 x.c7, .slice x.a8 x.n8 x.c8, .slice ar room.length cr, .int .i64 err] 31) = w0 at *
    go_wp2_with fail
    refine (small46_any _ (HGl.out.below HR.out.below HGl.out.size) (HML.out.up HR.out.below)).mono ?_
    rintro e w1 ⟨rfl, hb1⟩
    have HR1 := Lib.hid (HR.out.step hb1)
    clear hb1 HR
    go_wp2_with (first | (refine wpList_load_rowW (by first | (go_simp; done) | rfl) 31 _ rfl _ rfl 31 _ _ _ (HR1.out.row 0 rfl) undBn rfl infoBn ?_))
    refine (HPl.out _ HR1.out.below).mono ?_
    rintro e w2 ⟨rfl, hb2⟩
    have HR2 := Lib.hid (HR1.out.step hb2)
    clear hb2 HR1
    go_wp2_with fail
    go_ret
    exact ⟨rfl, HR2.out.below⟩
  obtain ⟨h3, hee, hrr⟩ := plain_iff.1 hpl
  have HRm : Hid (LArg RInt 1 (.slice ar 3 cr) room w) := Lib.hid (by rw [← h3]; exact hR)
  have HPl : Hid (∀ w0, Below w.heap.size w w0 → Calls Tryz.prog 7 #[.agg #[.string x.nm, .slice x.a1 x.n1 x.c1, .int .i64 x.k, .slice x.a3 x.n3 x.c3, .slice x.a4 x.n4 x.c4, .slice x.a5 x.n5 x.c5, .slice x.a6 x.n6 x.c6, .slice x.a7 x.n7 x.c7, .slice x.a8 x.n8 x.c8, .slice ar 3 cr, .int .i64 err]] w0 fun e w' => e = .returned (.bool true) ∧ Below w0.heap.size w0 w') := Lib.hid (fun w0 hb => by have h := plain_any x ar cr err room w0 (hR.below stays_int hb); rw [hpl, h3] at h; exact h)
  rw [h3]
  clear hpl hR
  cases hf1 : fewB46 pubs first [] with
  | false =>
    have HF1 : Hid (∀ w0, Below w.heap.size w w0 → Calls Tryz.prog 8 #[.slice aq pubs.length nq, .slice a1 first.length n1, .slice none 0 0] w0 fun e w' => e = .returned (.bool false) ∧ Below w0.heap.size w0 w') := Lib.hid (fun w0 hb => by have h := few46_any pubs first [] aq a1 none nq n1 0 w0 (HQ.out.below stays_Public hb) (HC1.out.below stays_RC hb) (larg_nilP w0); rw [hf1] at h; exact h)
    clear hf1
    have HR := Lib.hid ((RowsS.nil w).alloc (.cells #[.string x.nm, .slice x.a1 x.n1 x.c1, .int .i64 x.k, .slice x.a3 x.n3 x.c3, .slice x.a4 x.n4 x.c4, .slice x.a5 x.n5 x.c5, .slice x.a6 x.n6 x.c6, .slice x.a7 x.n7 x.c7, .slice x.a8 x.n8 x.c8, .slice ar 3 cr, .int .i64 err] 31))
    go_enter Tryz.func4, Tryz.ntmps4
    go_upto_region 1 with fail
    generalize w.alloc (.cells #[.string x.nm, .slice x.a1 x.n1 x.c1, .int .i64 x.k, .slice x.a3 x.n3 x.c3, .slice x.a4 x.n4 x.c4, .slice x.a5 x.n5 x.c5, .slice x.a6 x.n6 x.c6, .slice x.a7 x.n7 x.c7, .slice x.a8 x.n8 x.c8, .slice ar 3 cr, .int .i64 err] 31) = w0 at *
    go_wp2_with fail
    refine (small46_any _ (HGl.out.below HR.out.below HGl.out.size) (HML.out.up HR.out.below)).mono ?_
    rintro e w1 ⟨rfl, hb1⟩
    have HR1 := Lib.hid (HR.out.step hb1)
    clear hb1 HR
    go_wp2_with (first | (refine wpList_load_rowW (by first | (go_simp; done) | rfl) 31 _ rfl _ rfl 31 _ _ _ (HR1.out.row 0 rfl) undBn rfl infoBn ?_))
    refine (HPl.out _ HR1.out.below).mono ?_
    rintro e w2 ⟨rfl, hb2⟩
    have HR2 := Lib.hid (HR1.out.step hb2)
    clear hb2 HR1
    go_wp2_with fail
    refine (HF1.out _ HR2.out.below).mono ?_
    rintro e w3 ⟨rfl, hb3⟩
    have HR3 := Lib.hid (HR2.out.step hb3)
    clear hb3 HR2
    go_wp2_with fail
    go_ret
    exact ⟨rfl, HR3.out.below⟩
  | true =>
    have HF1 : Hid (∀ w0, Below w.heap.size w w0 → Calls Tryz.prog 8 #[.slice aq pubs.length nq, .slice a1 first.length n1, .slice none 0 0] w0 fun e w' => e = .returned (.bool true) ∧ Below w0.heap.size w0 w') := Lib.hid (fun w0 hb => by have h := few46_any pubs first [] aq a1 none nq n1 0 w0 (HQ.out.below stays_Public hb) (HC1.out.below stays_RC hb) (larg_nilP w0); rw [hf1] at h; exact h)
    obtain ⟨-, hpv1, -, hql, -⟩ := few46_iff.1 hf1
    clear hf1
    cases hf2 : fewB46 [] more [] with
    | false =>
      have HF2 : Hid (∀ w0, Below w.heap.size w w0 → Calls Tryz.prog 8 #[.slice none 0 0, .slice a2 more.length n2, .slice none 0 0] w0 fun e w' => e = .returned (.bool false) ∧ Below w0.heap.size w0 w') := Lib.hid (fun w0 hb => by have h := few46_any [] more [] none a2 none 0 n2 0 w0 (larg_nilQ w0) (HC2.out.below stays_RC hb) (larg_nilP w0); rw [hf2] at h; exact h)
      clear hf2
      have HR := Lib.hid ((RowsS.nil w).alloc (.cells #[.string x.nm, .slice x.a1 x.n1 x.c1, .int .i64 x.k, .slice x.a3 x.n3 x.c3, .slice x.a4 x.n4 x.c4, .slice x.a5 x.n5 x.c5, .slice x.a6 x.n6 x.c6, .slice x.a7 x.n7 x.c7, .slice x.a8 x.n8 x.c8, .slice ar 3 cr, .int .i64 err] 31))
      go_enter Tryz.func4, Tryz.ntmps4
      go_upto_region 1 with fail
      generalize w.alloc (.cells #[.string x.nm, .slice x.a1 x.n1 x.c1, .int .i64 x.k, .slice x.a3 x.n3 x.c3, .slice x.a4 x.n4 x.c4, .slice x.a5 x.n5 x.c5, .slice x.a6 x.n6 x.c6, .slice x.a7 x.n7 x.c7, .slice x.a8 x.n8 x.c8, .slice ar 3 cr, .int .i64 err] 31) = w0 at *
      go_wp2_with fail
      refine (small46_any _ (HGl.out.below HR.out.below HGl.out.size) (HML.out.up HR.out.below)).mono ?_
      rintro e w1 ⟨rfl, hb1⟩
      have HR1 := Lib.hid (HR.out.step hb1)
      clear hb1 HR
      go_wp2_with (first | (refine wpList_load_rowW (by first | (go_simp; done) | rfl) 31 _ rfl _ rfl 31 _ _ _ (HR1.out.row 0 rfl) undBn rfl infoBn ?_))
      refine (HPl.out _ HR1.out.below).mono ?_
      rintro e w2 ⟨rfl, hb2⟩
      have HR2 := Lib.hid (HR1.out.step hb2)
      clear hb2 HR1
      go_wp2_with fail
      refine (HF1.out _ HR2.out.below).mono ?_
      rintro e w3 ⟨rfl, hb3⟩
      have HR3 := Lib.hid (HR2.out.step hb3)
      clear hb3 HR2
      go_wp2_with fail
      refine (HF2.out _ HR3.out.below).mono ?_
      rintro e w4 ⟨rfl, hb4⟩
      have HR4 := Lib.hid (HR3.out.step hb4)
      clear hb4 HR3
      go_wp2_with fail
      go_ret
      exact ⟨rfl, HR4.out.below⟩
    | true =>
      have HF2 : Hid (∀ w0, Below w.heap.size w w0 → Calls Tryz.prog 8 #[.slice none 0 0, .slice a2 more.length n2, .slice none 0 0] w0 fun e w' => e = .returned (.bool true) ∧ Below w0.heap.size w0 w') := Lib.hid (fun w0 hb => by have h := few46_any [] more [] none a2 none 0 n2 0 w0 (larg_nilQ w0) (HC2.out.below stays_RC hb) (larg_nilP w0); rw [hf2] at h; exact h)
      obtain ⟨-, hpv2, -, -, -⟩ := few46_iff.1 hf2
      clear hf2
      by_cases hl1 : first.length ≤ 5
      rotate_left 1
      · have q1 : (5 : Int) < (first.length : Int) := by omega
        have q1b : 5 < first.length := by omega
        have HR := Lib.hid ((RowsS.nil w).alloc (.cells #[.string x.nm, .slice x.a1 x.n1 x.c1, .int .i64 x.k, .slice x.a3 x.n3 x.c3, .slice x.a4 x.n4 x.c4, .slice x.a5 x.n5 x.c5, .slice x.a6 x.n6 x.c6, .slice x.a7 x.n7 x.c7, .slice x.a8 x.n8 x.c8, .slice ar 3 cr, .int .i64 err] 31))
        go_enter Tryz.func4, Tryz.ntmps4
        go_upto_region 1 with fail
        generalize w.alloc (.cells #[.string x.nm, .slice x.a1 x.n1 x.c1, .int .i64 x.k, .slice x.a3 x.n3 x.c3, .slice x.a4 x.n4 x.c4, .slice x.a5 x.n5 x.c5, .slice x.a6 x.n6 x.c6, .slice x.a7 x.n7 x.c7, .slice x.a8 x.n8 x.c8, .slice ar 3 cr, .int .i64 err] 31) = w0 at *
        go_wp2_with fail
        refine (small46_any _ (HGl.out.below HR.out.below HGl.out.size) (HML.out.up HR.out.below)).mono ?_
        rintro e w1 ⟨rfl, hb1⟩
        have HR1 := Lib.hid (HR.out.step hb1)
        clear hb1 HR
        go_wp2_with (first | (refine wpList_load_rowW (by first | (go_simp; done) | rfl) 31 _ rfl _ rfl 31 _ _ _ (HR1.out.row 0 rfl) undBn rfl infoBn ?_))
        refine (HPl.out _ HR1.out.below).mono ?_
        rintro e w2 ⟨rfl, hb2⟩
        have HR2 := Lib.hid (HR1.out.step hb2)
        clear hb2 HR1
        go_wp2_with fail
        refine (HF1.out _ HR2.out.below).mono ?_
        rintro e w3 ⟨rfl, hb3⟩
        have HR3 := Lib.hid (HR2.out.step hb3)
        clear hb3 HR2
        go_wp2_with fail
        refine (HF2.out _ HR3.out.below).mono ?_
        rintro e w4 ⟨rfl, hb4⟩
        have HR4 := Lib.hid (HR3.out.step hb4)
        clear hb4 HR3
        go_wp2_with fail
        go_ret
        exact ⟨rfl, HR4.out.below⟩
      have q1 : ¬ (5 : Int) < (first.length : Int) := by omega
      have q1b : ¬ 5 < first.length := by omega
      by_cases hl2 : more.length ≤ 5
      rotate_left 1
      · have q2 : (5 : Int) < (more.length : Int) := by omega
        have q2b : 5 < more.length := by omega
        have HR := Lib.hid ((RowsS.nil w).alloc (.cells #[.string x.nm, .slice x.a1 x.n1 x.c1, .int .i64 x.k, .slice x.a3 x.n3 x.c3, .slice x.a4 x.n4 x.c4, .slice x.a5 x.n5 x.c5, .slice x.a6 x.n6 x.c6, .slice x.a7 x.n7 x.c7, .slice x.a8 x.n8 x.c8, .slice ar 3 cr, .int .i64 err] 31))
        go_enter Tryz.func4, Tryz.ntmps4
        go_upto_region 1 with fail
        generalize w.alloc (.cells #[.string x.nm, .slice x.a1 x.n1 x.c1, .int .i64 x.k, .slice x.a3 x.n3 x.c3, .slice x.a4 x.n4 x.c4, .slice x.a5 x.n5 x.c5, .slice x.a6 x.n6 x.c6, .slice x.a7 x.n7 x.c7, .slice x.a8 x.n8 x.c8, .slice ar 3 cr, .int .i64 err] 31) = w0 at *
        go_wp2_with fail
        refine (small46_any _ (HGl.out.below HR.out.below HGl.out.size) (HML.out.up HR.out.below)).mono ?_
        rintro e w1 ⟨rfl, hb1⟩
        have HR1 := Lib.hid (HR.out.step hb1)
        clear hb1 HR
        go_wp2_with (first | (refine wpList_load_rowW (by first | (go_simp; done) | rfl) 31 _ rfl _ rfl 31 _ _ _ (HR1.out.row 0 rfl) undBn rfl infoBn ?_))
        refine (HPl.out _ HR1.out.below).mono ?_
        rintro e w2 ⟨rfl, hb2⟩
        have HR2 := Lib.hid (HR1.out.step hb2)
        clear hb2 HR1
        go_wp2_with fail
        refine (HF1.out _ HR2.out.below).mono ?_
        rintro e w3 ⟨rfl, hb3⟩
        have HR3 := Lib.hid (HR2.out.step hb3)
        clear hb3 HR2
        go_wp2_with fail
        refine (HF2.out _ HR3.out.below).mono ?_
        rintro e w4 ⟨rfl, hb4⟩
        have HR4 := Lib.hid (HR3.out.step hb4)
        clear hb4 HR3
        go_wp2_with fail
        go_ret
        exact ⟨rfl, HR4.out.below⟩
      have q2 : ¬ (5 : Int) < (more.length : Int) := by omega
      have q2b : ¬ 5 < more.length := by omega
      have hc1l : first.length ≤ 1000 := by omega
      have hc2l : more.length ≤ 1000 := by omega
      have hqlr : pubs.reverse.length ≤ 1000 := by rw [List.length_reverse]; omega
      have HPV1 : Hid (∀ y ∈ first, y.prev.size ≤ 900) := Lib.hid (fun y hy => Nat.le_trans (hpv1 y hy) (by decide))
      have HPV2 : Hid (∀ y ∈ more, y.prev.size ≤ 900) := Lib.hid (fun y hy => Nat.le_trans (hpv2 y hy) (by decide))
      have hql10 := hql
      replace hql : pubs.length ≤ 1000 := by omega
      obtain ⟨fm, hfm⟩ : ∃ fm, fm = first ++ more := ⟨_, rfl⟩
      have HFM := Lib.hid hfm
      obtain ⟨mf, hmf⟩ : ∃ mf, mf = more ++ first := ⟨_, rfl⟩
      have HMF := Lib.hid hmf
      clear hfm hmf
      obtain ⟨ic, zc, hic, hsz, hzc, hcz, hbc⟩ := infoC72
      obtain ⟨iq, zq, hiq, hszq, hzq, hcq, hbq⟩ := infoQ48
      obtain ⟨zs, hzs, hz⟩ := qs_of HQ.out
      have hzl : pubs.length = zs.length := by rw [← hzs, List.length_map]
      have HZ := Lib.hid hz
      have HZ1 : Hid (∀ y ∈ zs, y.2.oneCell' = true) := Lib.hid (fun y hy => by
        obtain ⟨j, hj⟩ := List.getElem?_of_mem hy
        obtain ⟨_, _, _, _, _, _, _, g3⟩ := hz j y hj
        obtain ⟨_, _, e, -, -⟩ := g3.slice
        rw [e]
        rfl)
      have HZS := Lib.hid hzs
      have HZL := Lib.hid hzl
      clear hpv1 hpv2 hz hzs hzl
      have HR := Lib.hid ((RowsS.nil w).alloc (.cells #[.string x.nm, .slice x.a1 x.n1 x.c1, .int .i64 x.k, .slice x.a3 x.n3 x.c3, .slice x.a4 x.n4 x.c4, .slice x.a5 x.n5 x.c5, .slice x.a6 x.n6 x.c6, .slice x.a7 x.n7 x.c7, .slice x.a8 x.n8 x.c8, .slice ar 3 cr, .int .i64 err] 31))
      go_enter Tryz.func4, Tryz.ntmps4
      go_upto_region 1 with fail
      generalize w.alloc (.cells #[.string x.nm, .slice x.a1 x.n1 x.c1, .int .i64 x.k, .slice x.a3 x.n3 x.c3, .slice x.a4 x.n4 x.c4, .slice x.a5 x.n5 x.c5, .slice x.a6 x.n6 x.c6, .slice x.a7 x.n7 x.c7, .slice x.a8 x.n8 x.c8, .slice ar 3 cr, .int .i64 err] 31) = w0 at *
      go_wp2_with fail
      refine (small46_any _ (HGl.out.below HR.out.below HGl.out.size) (HML.out.up HR.out.below)).mono ?_
      rintro e w1 ⟨rfl, hb1⟩
      have HR1 := Lib.hid (HR.out.step hb1)
      clear hb1 HR
      go_wp2_with (first | (refine wpList_load_rowW (by first | (go_simp; done) | rfl) 31 _ rfl _ rfl 31 _ _ _ (HR1.out.row 0 rfl) undBn rfl infoBn ?_))
      refine (HPl.out _ HR1.out.below).mono ?_
      rintro e w2 ⟨rfl, hb2⟩
      have HR2 := Lib.hid (HR1.out.step hb2)
      clear hb2 HR1
      go_wp2_with fail
      refine (HF1.out _ HR2.out.below).mono ?_
      rintro e w3 ⟨rfl, hb3⟩
      have HR3 := Lib.hid (HR2.out.step hb3)
      clear hb3 HR2
      go_wp2_with fail
      refine (HF2.out _ HR3.out.below).mono ?_
      rintro e w4 ⟨rfl, hb4⟩
      have HR4 := Lib.hid (HR3.out.step hb4)
      clear hb4 HR3
      clear q1 q1b q2 q2b HPl HF1 HF2
      have hzl := HZL.out
      rw [hzl] at hql10
      rw [hzl]
      clear hzl
      go_wp2_with fail
      go_loopw [10, 11] (fun sv iv wx => ∃ (bv : Value) (i : Nat), bv = sv ∧ i ≤ zs.length ∧ iv = .int .i64 i ∧ Differ pubs i ∧ wx.ownsRow (w.heap.size + 1) 55 4 bv (i) (flQ (zs.take (i)).reverse) ∧ RowsS w [(w.heap.size, .cells #[.string x.nm, .slice x.a1 x.n1 x.c1, .int .i64 x.k, .slice x.a3 x.n3 x.c3, .slice x.a4 x.n4 x.c4, .slice x.a5 x.n5 x.c5, .slice x.a6 x.n6 x.c6, .slice x.a7 x.n7 x.c7, .slice x.a8 x.n8 x.c8, .slice ar 3 cr, .int .i64 err] 31)] wx) (fun _ iv _ => zs.length - (Go.RowKit.intOf iv).toNat)
      case atStart => exact ⟨_, 0, rfl, Nat.zero_le _, rfl, fun k m p q h1 h2 => absurd h2 (Nat.not_lt_zero _), World.ownsRow_nil _ _ _ _, HR4.out⟩
      case round =>
        obtain ⟨bv, i, rfl, hi, rfl, hdf, hown, hr⟩ := hrel
        have HDf := Lib.hid hdf
        have HOw := Lib.hid hown
        have HRx := Lib.hid hr
        clear hdf hown hr HR4
        by_cases hlt : i < zs.length
        · obtain ⟨q, hq⟩ : ∃ q, zs[i]? = some q := ⟨_, List.getElem?_eq_getElem hlt⟩
          have hqp : pubs[i]? = some q.1 := by rw [← HZS.out, List.getElem?_map, hq]; rfl
          obtain ⟨bi, oi, haq, hbi, hrgi, hqI, -, hqn⟩ := HZ.out i q hq
          subst haq
          obtain ⟨qa, qc, hq2, -, -⟩ := hqn.slice
          obtain ⟨q1, q2⟩ := q
          dsimp only at hq2 hqp hrgi
          subst hq2
          have HRi : Hid (w.rangeAt bi (oi + i * 4) [.int .i64 q1.hour, .slice qa q1.net.length qc, .int .i64 q1.mouth.lo, .int .i64 q1.mouth.hi]) := Lib.hid hrgi
          have HQ1 := Lib.hid hqp
          have HQ0 := Lib.hid hq
          have hlt' : (i : Int) < (zs.length : Int) := by omega
          clear hq hqp hrgi hqn hqI
          go_wp2_with fail
          rename World => wy
          go_loopw [12] (fun iv wx => ∃ k : Nat, k ≤ i ∧ iv = .int .i64 k ∧ (∀ (m : Nat) (p : PublicV), m < k → pubs[m]? = some p → p.hour ≠ q1.hour) ∧ wx.ownsRow (w.heap.size + 1) 55 4 bv (i) (flQ (zs.take (i)).reverse) ∧ RowsS w [(w.heap.size, .cells #[.string x.nm, .slice x.a1 x.n1 x.c1, .int .i64 x.k, .slice x.a3 x.n3 x.c3, .slice x.a4 x.n4 x.c4, .slice x.a5 x.n5 x.c5, .slice x.a6 x.n6 x.c6, .slice x.a7 x.n7 x.c7, .slice x.a8 x.n8 x.c8, .slice ar 3 cr, .int .i64 err] 31)] wx) (fun iv _ => i - (Go.RowKit.intOf iv).toNat)
          case atStart => exact ⟨0, Nat.zero_le _, rfl, fun m p h => absurd h (Nat.not_lt_zero _), HOw.out, HRx.out⟩
          case round =>
            clear HOw HRx
            obtain ⟨k, hk, rfl, hno, hown, hr⟩ := hrel
            have HNO := Lib.hid hno
            have HOw := Lib.hid hown
            have HRk1 := Lib.hid hr
            clear hno hown hr
            by_cases hlk : k < i
            · obtain ⟨p, hp⟩ : ∃ q, zs[k]? = some q := ⟨_, List.getElem?_eq_getElem (by omega)⟩
              have hpp : pubs[k]? = some p.1 := by rw [← HZS.out, List.getElem?_map, hp]; rfl
              obtain ⟨bk, ok, hak, hbk, hrgk, -, -, hpn⟩ := HZ.out k p hp
              simp only [Option.some.injEq, Addr.mk.injEq, and_true] at hak
              obtain ⟨rfl, rfl⟩ := hak
              obtain ⟨pa, pcc, hp2, -, -⟩ := hpn.slice
              obtain ⟨p1, p2⟩ := p
              dsimp only at hp2 hpp hrgk
              subst hp2
              have HRk : Hid (w.rangeAt bi (oi + k * 4) [.int .i64 p1.hour, .slice pa p1.net.length pcc, .int .i64 p1.mouth.lo, .int .i64 p1.mouth.hi]) := Lib.hid hrgk
              have HP1 := Lib.hid hpp
              have hlk' : (k : Int) < (i : Int) := by omega
              have hkz : (k : Int) < (zs.length : Int) := by omega
              have hkzn : k < zs.length := by omega
              clear hp hpp hrgk hpn
              by_cases he : p1.hour = q1.hour
              · have e1 : (p1.hour == q1.hour) = true := by rw [beq_iff_eq]; exact he
                have e2 : decide (p1.hour = q1.hour) = true := decide_eq_true he
                clear he
                go_upto_region 11 with fail
                refine wp_region_noPanic ?_
                refine wp_region_held_drew (S := fun cw => RowsS w [(w.heap.size, .cells #[.string x.nm, .slice x.a1 x.n1 x.c1, .int .i64 x.k, .slice x.a3 x.n3 x.c3, .slice x.a4 x.n4 x.c4, .slice x.a5 x.n5 x.c5, .slice x.a6 x.n6 x.c6, .slice x.a7 x.n7 x.c7, .slice x.a8 x.n8 x.c8, .slice ar 3 cr, .int .i64 err] 31)] cw) (by kernel_rfl) (HRk1.out.drew) (fun hHeld => ?_)
                refine tn 0 ?_
                try simp only [Act.put, aL1, aL2, aL3]
                refine tn 1 ?_
                try simp only [Act.put, aL1, aL2, aL3]
                refine tn 2 ?_
                try simp only [Act.put, aL1, aL2, aL3]
                refine tn 3 ?_
                try simp only [Act.put, aL1, aL2, aL3]
                refine tn 4 ?_ (hx := fun wz hSw => by have e4 := (rangeAt_below HRk.out hSw.below hbi) 0 (.int .i64 p1.hour) rfl; rw [Nat.add_zero] at e4; go_simp; try with_reducible rfl)
                try simp only [Act.put, aL1, aL2, aL3]
                refine tn 5 ?_
                try simp only [Act.put, aL1, aL2, aL3]
                refine tn 6 ?_
                try simp only [Act.put, aL1, aL2, aL3]
                refine tn 7 ?_
                try simp only [Act.put, aL1, aL2, aL3]
                refine tn 8 ?_
                try simp only [Act.put, aL1, aL2, aL3]
                refine tn 9 ?_ (hx := fun wz hSw => by have e4 := (rangeAt_below HRi.out hSw.below hbi) 0 (.int .i64 q1.hour) rfl; rw [Nat.add_zero] at e4; go_simp; try with_reducible rfl)
                try simp only [Act.put, aL1, aL2, aL3]
                refine tn 10 ?_
                try simp only [Act.put, aL1, aL2, aL3]
                refine rdone (NoPanic.normal ?_)
                go_wp2_with fail
                go_ret
                exact ⟨rfl, hHeld.below⟩
              · have e1 : (p1.hour == q1.hour) = false := by rw [beq_eq_false_iff_ne]; exact he
                have e2 : decide (p1.hour = q1.hour) = false := decide_eq_false he
                have HN := Lib.hid (upto_snoc (P := fun p : PublicV => p.hour ≠ q1.hour) HNO.out HP1.out he)
                clear he
                go_upto_region 11 with fail
                refine wp_region_noPanic ?_
                refine wp_region_held_drew (S := fun cw => RowsS w [(w.heap.size, .cells #[.string x.nm, .slice x.a1 x.n1 x.c1, .int .i64 x.k, .slice x.a3 x.n3 x.c3, .slice x.a4 x.n4 x.c4, .slice x.a5 x.n5 x.c5, .slice x.a6 x.n6 x.c6, .slice x.a7 x.n7 x.c7, .slice x.a8 x.n8 x.c8, .slice ar 3 cr, .int .i64 err] 31)] cw) (by kernel_rfl) (HRk1.out.drew) (fun hHeld => ?_)
                refine tn 0 ?_
                try simp only [Act.put, aL1, aL2, aL3]
                refine tn 1 ?_
                try simp only [Act.put, aL1, aL2, aL3]
                refine tn 2 ?_
                try simp only [Act.put, aL1, aL2, aL3]
                refine tn 3 ?_
                try simp only [Act.put, aL1, aL2, aL3]
                refine tn 4 ?_ (hx := fun wz hSw => by have e4 := (rangeAt_below HRk.out hSw.below hbi) 0 (.int .i64 p1.hour) rfl; rw [Nat.add_zero] at e4; go_simp; try with_reducible rfl)
                try simp only [Act.put, aL1, aL2, aL3]
                refine tn 5 ?_
                try simp only [Act.put, aL1, aL2, aL3]
                refine tn 6 ?_
                try simp only [Act.put, aL1, aL2, aL3]
                refine tn 7 ?_
                try simp only [Act.put, aL1, aL2, aL3]
                refine tn 8 ?_
                try simp only [Act.put, aL1, aL2, aL3]
                refine tn 9 ?_ (hx := fun wz hSw => by have e4 := (rangeAt_below HRi.out hSw.below hbi) 0 (.int .i64 q1.hour) rfl; rw [Nat.add_zero] at e4; go_simp; try with_reducible rfl)
                try simp only [Act.put, aL1, aL2, aL3]
                refine tn 10 ?_
                try simp only [Act.put, aL1, aL2, aL3]
                refine rdone (NoPanic.normal ?_)
                go_wp2_with fail
                go_roundw
                case rel => exact ⟨k + 1, by omega, by go_num, HN.out, HOw.out, hHeld⟩
                case measure => simp [Go.RowKit.intOf]; omega
            · obtain rfl : k = i := by omega
              have hlk' : ¬ (k : Int) < (k : Int) := by omega
              have HDf2 : Hid (Differ pubs (k + 1)) := Lib.hid (fun a b p q h1 h2 h3 h4 => by
                by_cases e : b = k
                · subst e
                  rw [HQ1.out] at h4
                  cases h4
                  exact HNO.out a p h1 h3
                · exact HDf.out a b p q h1 (by omega) h3 h4)
              have HRg := Lib.hid (rangeAt_below HRi.out HRk1.out.below hbi)
              have hal : Below wr.heap.size wr (wr.alloc (.cells #[.int .i64 q1.hour, .slice qa q1.net.length qc, .int .i64 q1.mouth.lo, .int .i64 q1.mouth.hi] 55)) := (Below.refl _ _).alloc (Nat.le_refl _) _
              have HRa := Lib.hid (HRk1.out.step hal)
              have HOb := Lib.hid (HOw.out.kept (grown_of_below hal none) (by cases bv.ownBlock <;> simp))
              have hsz0 : w.heap.size + 1 ≤ wr.heap.size := by have := blk_lt (HRk1.out.row 0 rfl); omega
              have HOn : Hid ((wr.alloc (.cells #[.int .i64 q1.hour, .slice qa q1.net.length qc, .int .i64 q1.mouth.lo, .int .i64 q1.mouth.hi] 55)).ownsRow (w.heap.size + 1) 55 4 (.slice (some ⟨wr.heap.size, 0, none⟩) 1 1) 1 (cellsQ (q1, .slice qa q1.net.length qc))) := Lib.hid ⟨rfl, Or.inr ⟨wr.heap.size, 1, #[.int .i64 q1.hour, .slice qa q1.net.length qc, .int .i64 q1.mouth.lo, .int .i64 q1.mouth.hi], rfl, hsz0, heap_alloc_new _ _, Nat.le_refl _, by decide, rfl, rfl⟩⟩
              obtain ⟨ab, cb, hbv, hnews⟩ := own_news HOb.out
              subst hbv
              have hnl : (flQ (zs.take k).reverse).length = k * 4 := by rw [flQ_len, List.length_reverse, List.length_take]; omega
              have hsz1 := hal.size
              clear hlk hk HNO HDf hal HOb HOw
              go_wp2_with (first | (refine wpList_load_range (by first | (go_simp; done) | rfl) 55 _ rfl _ _ rfl _ _ HRg.out undPb rfl infoPb ?_) | (at_builtin; refine Hid.out ?_))
              refine Lib.hid ?_
              refine wpList_append_any _ rfl _ _ 32 rfl (w.heap.size + 1) 55 iq zq 4 iq.bytes undSQ hiq hzq hszq rfl hcq (by decide) (.slice (some ⟨wr.heap.size, 0, none⟩) 1 1) 1 (cellsQ (q1, .slice qa q1.net.length qc)) rfl HOn.out ab k cb (flQ (zs.take k).reverse) rfl hnl hnews (flQ_one (fun y hy => HZ1.out y (by
                rw [List.mem_reverse] at hy
                exact List.mem_of_mem_take hy))) (by unfold maxLen; omega) (by rw [hbq]; omega) (by omega) ?_
              intro v5 w5 hown5 hgr5 _
              have hne : w.heap.size ≠ wr.heap.size := by omega
              have HR5 := Lib.hid (HRa.out.grownO hgr5 (fun g e => by simp only [Value.ownBlock, Option.some.injEq] at e; omega) (fun p hp => by
                have : p.1 = w.heap.size := by simp at hp; rw [hp]
                rw [this]; intro e; simp only [Value.ownBlock, Option.some.injEq] at e; exact hne e.symm))
              have HO5 : Hid (w5.ownsRow (w.heap.size + 1) 55 4 v5 (k + 1) (flQ (zs.take (k + 1)).reverse)) := Lib.hid (by
                rw [rev_snoc HQ0.out, show k + 1 = 1 + k by omega]
                exact hown5)
              clear hown5 hgr5 hnews hnl HOn HRa HRg
              go_wp2_with fail
              go_roundw
              case rel => exact ⟨_, k + 1, rfl, by omega, by go_num, HDf2.out, HO5.out, HR5.out⟩
              case measure => simp [Go.RowKit.intOf]; omega
        · obtain rfl : i = zs.length := by omega
          have hlt' : ¬ (zs.length : Int) < (zs.length : Int) := by omega
          have HBW := Lib.hid HRx.out.below
          have HBas := Lib.hid (HRx.out.row 0 rfl)
          have hbl := blk_lt HBas.out
          have hlb : LArg RPublic 4 bv pubs.reverse wr := by
            have h := HOw.out
            rw [List.take_length] at h
            have h2 := larg_ownQ h (fun z hz => by
              rw [List.mem_reverse] at hz
              obtain ⟨j, hj⟩ := List.getElem?_of_mem hz
              obtain ⟨_, _, _, _, _, g1, g2, g3⟩ := HZ.out j z hj
              exact ⟨g1, g2, g3.below stays_Span HBW.out⟩)
            rw [List.map_reverse, HZS.out] at h2
            exact h2
          obtain ⟨bva, bvc, hbv, -, -⟩ := hlb.slice
          rw [List.length_reverse] at hbv
          subst hbv
          have HLB := Lib.hid hlb
          have HDf0 : Hid (Differ pubs pubs.length) := Lib.hid (by
            have e : zs.length = pubs.length := by rw [← HZS.out, List.length_map]
            rw [← e]; exact HDf.out)
          clear HDf HOw HRx hlb hlt hi HZ HZ1
          have HDf := HDf0
          clear HDf0
          have hzl := HZL.out
          rw [← hzl]
          clear hzl HZL HZS
          go_upto_region 14 with fail
          rename World => w5
          refine wp_region_noPanic ?_
          refine wp_region_held_drew (S := fun cw => RowsS w5 [] cw) (by kernel_rfl) ((RowsS.nil w5).drew) (fun hHeld => ?_)
          refine tn 0 ?_ (hx := fun wz hSw => by refine exec_load_row 31 ?_ ?_ _ ?_ 31 _ _ _ (hSw.oldRow HBas) undBn rfl infoBn; rotate_left 1; exact rfl; exact rfl)
          try simp only [Act.put, aL1, aL2, aL3]
          refine tn 2 ?_
          try simp only [Act.put, aL1, aL2, aL3]
          refine tn 3 ?_
          try simp only [Act.put, aL1, aL2, aL3]
          refine rd1 1 (fun K hK => ?_)
          go_simp
          refine (publics_any _).mono ?_
          rintro e w' ⟨bp, rfl, hZP, hgeP, hb⟩
          refine hK.out _ _ (hHeld.step hb) (fun hHeld => ?_)
          clear hK K
          try simp only [Act.put, aL1, aL2, aL3]
          refine rd1 4 (fun K hK => ?_)
          go_simp
          refine (find_any x ar (some ⟨bp, 0, none⟩) cr 3 err room PSK (.slice aq pubs.length nq) pubs a1 none n1 0 first [] _ (gjin (HRm.out.below stays_int (HBW.out.trans (hHeld.below.mono HBW.out.size))) h3 hee hrr hZP (HQ.out.below stays_Public (HBW.out.trans (hHeld.below.mono HBW.out.size))) hql) (HC1.out.below stays_RC (HBW.out.trans (hHeld.below.mono HBW.out.size))) (larg_nilP _) hc1l (by decide) HPV1.out (HGl.out.below (HBW.out.trans (hHeld.below.mono HBW.out.size)) HGl.out.size) (HML.out.up (HBW.out.trans (hHeld.below.mono HBW.out.size)))).mono ?_
          rintro e w' ⟨v1, rfl, hv1, hb⟩
          have hZP := (hb.block bp (blk_lt hZP)).trans hZP
          refine hK.out _ _ (hHeld.step hb) (fun hHeld => ?_)
          clear hK K
          try simp only [Act.put, aL1, aL2, aL3]
          refine tn 5 ?_
          try simp only [Act.put, aL1, aL2, aL3]
          refine rdone (NoPanic.normal ?_)
          rename World => w6
          have HBW2 := Lib.hid (HBW.out.trans (hHeld.below.mono HBW.out.size))
          have HBas2 := Lib.hid (blk_below HBas.out hHeld.below (blk_lt HBas.out))
          have HLB2 := Lib.hid (HLB.out.below stays_Public hHeld.below)
          clear HLB
          have HLB := HLB2
          clear HLB2
          have HLv1 := Lib.hid hv1
          clear HBW hHeld HBas
          have HBW := HBW2
          have HBas := HBas2
          clear HBW2 HBas2
          have hbl := blk_lt HBas.out
          go_upto_region 15 with fail
          go_cut [14] (fun sv wx => LArg RBl 9 sv (findL (judgeV err room PSK pubs.reverse) fm []) wx ∧ RowsS w6 [] wx)
          case first =>
            refine wp_region_noPanic ?_
            refine wp_region_held_drew (S := fun cw => RowsS w6 [] cw) (by kernel_rfl) ((RowsS.nil w6).drew) (fun hHeld => ?_)
            refine tn 0 ?_ (hx := fun wz hSw => by refine exec_load_row 31 ?_ ?_ _ ?_ 31 _ _ _ (hSw.oldRow HBas) undBn rfl infoBn; rotate_left 1; exact rfl; exact rfl)
            try simp only [Act.put, aL1, aL2, aL3]
            refine tn 2 ?_
            try simp only [Act.put, aL1, aL2, aL3]
            refine tn 4 ?_
            try simp only [Act.put, aL1, aL2, aL3]
            refine tn 6 ?_
            try simp only [Act.put, aL1, aL2, aL3]
            refine rd2 1 3 (fun K hK => ?_) (fun K hK => ?_)
            · go_simp
              refine (publics_any _).mono ?_
              rintro e w' ⟨bp, rfl, hZP, hgeP, hb⟩
              try have HAG : Hid (AG w6 bp (.slice (some ⟨w6.heap.size, 0, none⟩) 0 0) [] w') := Lib.hid ⟨HOw.out.kept (grown_of_below hb none) (by simp [Value.ownBlock]), by simp only [Value.ownBlock, ne_eq, Option.some.injEq]; have := (HOw.out.lt w6.heap.size rfl).2; omega, hZP⟩
              refine hK.out _ _ (hHeld.step hb) (fun hHeld => ?_)
              clear hK K
              try simp only [Act.put, aL1, aL2, aL3]
              refine rd1 3 (fun K hK => ?_)
              go_simp
              have hgs := hHeld.below.size
              have HAG : Hid (AG w6 bp (.slice (some ⟨w'.heap.size, 0, none⟩) 0 0) [] (w'.alloc (.cells #[] 63))) := Lib.hid ⟨own_zero hgs, by simp only [Value.ownBlock, ne_eq, Option.some.injEq]; have := blk_lt hZP; omega, (heap_alloc_old _ _ (blk_lt hZP)).trans hZP⟩
              have hS1 := hHeld.step ((Below.refl w'.heap.size w').alloc (Nat.le_refl _) (.cells #[] 63))
              have hZP : (w'.alloc (.cells #[] 63)).heap[bp]? = some (.cells #[.int .i64 (pk 0), .int .i64 (pk 1), .int .i64 (pk 2)] 3 (0, 0)) := HAG.out.row
              generalize w'.alloc (.cells #[] 63) = wA at *
              generalize w'.heap.size = g0 at *
              refine hK.out _ _ hS1 (fun hHeld => ?_)
              clear hK K hS1 hgs
              try simp only [Act.put, aL1, aL2, aL3]
              refine rd1 5 (fun K hK => ?_)
              refine step_append_any rfl _ _ 33 rfl w6.heap.size 63 ic zc 8 ic.bytes undSC hic hzc hsz rfl hcz (by decide) _ [].length (flC []) rfl HAG.out.own a1 first.length n1 (flC first) rfl (flC_len _) (larg_news (HC1.out.below stays_RC (HBW.out.trans (hHeld.below.mono HBW.out.size)))) (flC_one _) (by (try simp only [List.length_nil]); unfold maxLen; omega) (by (try simp only [List.length_nil]); rw [hbc]; omega) hHeld.below.size ?_
              intro v5 w5 hown5 hgr5 hat5
              have HAG1 := Lib.hid (HAG.out.app hown5 hgr5 hat5)
              have hS1 := hHeld.grownO hgr5 (fun g e => (HAG.out.own.lt g e).1) (fun p hp => by simp at hp)
              have hZP := HAG1.out.row
              clear HAG hown5 hgr5 hat5
              have HAG := HAG1
              simp only [List.nil_append] at HAG
              clear HAG1
              refine hK.out _ _ hS1 (fun hHeld => ?_)
              clear hK K hS1
              try simp only [Act.put, aL1, aL2, aL3]
              refine rd1 7 (fun K hK => ?_)
              refine step_append_any rfl _ _ 33 rfl w6.heap.size 63 ic zc 8 ic.bytes undSC hic hzc hsz rfl hcz (by decide) _ first.length (flC first) rfl HAG.out.own a2 more.length n2 (flC more) rfl (flC_len _) (larg_news (HC2.out.below stays_RC (HBW.out.trans (hHeld.below.mono HBW.out.size)))) (flC_one _) (by (try simp only [List.length_nil]); unfold maxLen; omega) (by (try simp only [List.length_nil]); rw [hbc]; omega) hHeld.below.size ?_
              intro v5 w5 hown5 hgr5 hat5
              have HAG1 := Lib.hid (HAG.out.app hown5 hgr5 hat5)
              have hS1 := hHeld.grownO hgr5 (fun g e => (HAG.out.own.lt g e).1) (fun p hp => by simp at hp)
              have hZP := HAG1.out.row
              clear HAG hown5 hgr5 hat5
              rw [← HFM.out] at HAG1
              obtain ⟨a7, k7, rfl, hl7⟩ := larg_ownC HAG1.out.own (fun y hy => by
                rw [HFM.out] at hy
                rcases List.mem_append.1 hy with hy | hy
                · exact good_of HC1.out hy
                · exact good_of HC2.out hy)
              have HL7 := Lib.hid hl7
              clear hl7
              have HAG := HAG1
              
              clear HAG1
              refine hK.out _ _ hS1 (fun hHeld => ?_)
              clear hK K hS1
              try simp only [Act.put, aL1, aL2, aL3]
              refine rd1 8 (fun K hK => ?_)
              go_simp
              refine (find_any x ar (some ⟨bp, 0, none⟩) cr 3 err room PSK (.slice bva pubs.length bvc) pubs.reverse a7 none k7 0 fm [] _ (gjin (HRm.out.below stays_int (HBW.out.trans (hHeld.below.mono HBW.out.size))) h3 hee hrr HAG.out.row (HLB.out.below stays_Public hHeld.below) hqlr) HL7.out (larg_nilP _) (by rw [HFM.out, List.length_append]; omega) (by decide) (fun y hy => (List.mem_append.1 (by rw [HFM.out] at hy; exact hy)).elim (HPV1.out y) (HPV2.out y)) (HGl.out.below (HBW.out.trans (hHeld.below.mono HBW.out.size)) HGl.out.size) (HML.out.up (HBW.out.trans (hHeld.below.mono HBW.out.size)))).mono ?_
              rintro e w' ⟨v2, rfl, hv2, hb⟩
              have hZP := (hb.block bp (blk_lt hZP)).trans hZP
              refine hK.out _ _ (hHeld.step hb) (fun hHeld => ?_)
              clear hK K
              try simp only [Act.put, aL1, aL2, aL3]
              refine tn 9 ?_
              try simp only [Act.put, aL1, aL2, aL3]
              refine rdone (NoPanic.normal ?_)
              go_wp2_with fail
              go_meet
              exact ⟨hv2, hHeld⟩
            · go_simp
              have HOw : Hid ((w6.alloc (.cells #[] 63)).drew.ownsRow w6.heap.size 63 8 (.slice (some ⟨w6.heap.size, 0, none⟩) 0 0) 0 []) := Lib.hid (own_zero (Nat.le_refl _))
              have hS1 := RowsS.drew (hHeld.undrew.step ((Below.refl w6.heap.size w6).alloc (Nat.le_refl _) (.cells #[] 63)))
              refine hK.out _ _ hS1 (fun hHeld => ?_)
              clear hK K hS1
              try simp only [Act.put, aL1, aL2, aL3]
              refine rd1 1 (fun K hK => ?_)
              go_simp
              refine (publics_any _).mono ?_
              rintro e w' ⟨bp, rfl, hZP, hgeP, hb⟩
              try have HAG : Hid (AG w6 bp (.slice (some ⟨w6.heap.size, 0, none⟩) 0 0) [] w') := Lib.hid ⟨HOw.out.kept (grown_of_below hb none) (by simp [Value.ownBlock]), by simp only [Value.ownBlock, ne_eq, Option.some.injEq]; have := (HOw.out.lt w6.heap.size rfl).2; omega, hZP⟩
              refine hK.out _ _ (hHeld.step hb) (fun hHeld => ?_)
              clear hK K
              try simp only [Act.put, aL1, aL2, aL3]
              refine rd1 5 (fun K hK => ?_)
              refine step_append_any rfl _ _ 33 rfl w6.heap.size 63 ic zc 8 ic.bytes undSC hic hzc hsz rfl hcz (by decide) _ [].length (flC []) rfl HAG.out.own a1 first.length n1 (flC first) rfl (flC_len _) (larg_news (HC1.out.below stays_RC (HBW.out.trans (hHeld.below.mono HBW.out.size)))) (flC_one _) (by (try simp only [List.length_nil]); unfold maxLen; omega) (by (try simp only [List.length_nil]); rw [hbc]; omega) hHeld.below.size ?_
              intro v5 w5 hown5 hgr5 hat5
              have HAG1 := Lib.hid (HAG.out.app hown5 hgr5 hat5)
              have hS1 := hHeld.grownO hgr5 (fun g e => (HAG.out.own.lt g e).1) (fun p hp => by simp at hp)
              have hZP := HAG1.out.row
              clear HAG hown5 hgr5 hat5
              have HAG := HAG1
              simp only [List.nil_append] at HAG
              clear HAG1
              refine hK.out _ _ hS1 (fun hHeld => ?_)
              clear hK K hS1
              try simp only [Act.put, aL1, aL2, aL3]
              refine rd1 7 (fun K hK => ?_)
              refine step_append_any rfl _ _ 33 rfl w6.heap.size 63 ic zc 8 ic.bytes undSC hic hzc hsz rfl hcz (by decide) _ first.length (flC first) rfl HAG.out.own a2 more.length n2 (flC more) rfl (flC_len _) (larg_news (HC2.out.below stays_RC (HBW.out.trans (hHeld.below.mono HBW.out.size)))) (flC_one _) (by (try simp only [List.length_nil]); unfold maxLen; omega) (by (try simp only [List.length_nil]); rw [hbc]; omega) hHeld.below.size ?_
              intro v5 w5 hown5 hgr5 hat5
              have HAG1 := Lib.hid (HAG.out.app hown5 hgr5 hat5)
              have hS1 := hHeld.grownO hgr5 (fun g e => (HAG.out.own.lt g e).1) (fun p hp => by simp at hp)
              have hZP := HAG1.out.row
              clear HAG hown5 hgr5 hat5
              rw [← HFM.out] at HAG1
              obtain ⟨a7, k7, rfl, hl7⟩ := larg_ownC HAG1.out.own (fun y hy => by
                rw [HFM.out] at hy
                rcases List.mem_append.1 hy with hy | hy
                · exact good_of HC1.out hy
                · exact good_of HC2.out hy)
              have HL7 := Lib.hid hl7
              clear hl7
              have HAG := HAG1
              
              clear HAG1
              refine hK.out _ _ hS1 (fun hHeld => ?_)
              clear hK K hS1
              try simp only [Act.put, aL1, aL2, aL3]
              refine rd1 8 (fun K hK => ?_)
              go_simp
              refine (find_any x ar (some ⟨bp, 0, none⟩) cr 3 err room PSK (.slice bva pubs.length bvc) pubs.reverse a7 none k7 0 fm [] _ (gjin (HRm.out.below stays_int (HBW.out.trans (hHeld.below.mono HBW.out.size))) h3 hee hrr HAG.out.row (HLB.out.below stays_Public hHeld.below) hqlr) HL7.out (larg_nilP _) (by rw [HFM.out, List.length_append]; omega) (by decide) (fun y hy => (List.mem_append.1 (by rw [HFM.out] at hy; exact hy)).elim (HPV1.out y) (HPV2.out y)) (HGl.out.below (HBW.out.trans (hHeld.below.mono HBW.out.size)) HGl.out.size) (HML.out.up (HBW.out.trans (hHeld.below.mono HBW.out.size)))).mono ?_
              rintro e w' ⟨v2, rfl, hv2, hb⟩
              have hZP := (hb.block bp (blk_lt hZP)).trans hZP
              refine hK.out _ _ (hHeld.step hb) (fun hHeld => ?_)
              clear hK K
              try simp only [Act.put, aL1, aL2, aL3]
              refine tn 9 ?_
              try simp only [Act.put, aL1, aL2, aL3]
              refine rdone (NoPanic.normal ?_)
              go_wp2_with fail
              go_meet
              exact ⟨hv2, hHeld⟩
          obtain ⟨hv2, hHeld⟩ := hcut
          rename World => w7
          have HBW2 := Lib.hid (HBW.out.trans (hHeld.below.mono HBW.out.size))
          have HBas2 := Lib.hid (blk_below HBas.out hHeld.below (blk_lt HBas.out))
          have HLB2 := Lib.hid (HLB.out.below stays_Public hHeld.below)
          clear HLB
          have HLB := HLB2
          clear HLB2
          have HLv12 := Lib.hid (HLv1.out.below stays_RBl hHeld.below)
          clear HLv1
          have HLv1 := HLv12
          clear HLv12
          have HLv2 := Lib.hid hv2
          clear HBW hHeld HBas
          have HBW := HBW2
          have HBas := HBas2
          clear HBW2 HBas2
          have hbl := blk_lt HBas.out
          go_upto_region 16 with fail
          go_cut [15] (fun sv wx => LArg RBl 9 sv (findL (judgeV err room PSK pubs) mf []) wx ∧ RowsS w7 [] wx)
          case first =>
            refine wp_region_noPanic ?_
            refine wp_region_held_drew (S := fun cw => RowsS w7 [] cw) (by kernel_rfl) ((RowsS.nil w7).drew) (fun hHeld => ?_)
            refine tn 0 ?_ (hx := fun wz hSw => by refine exec_load_row 31 ?_ ?_ _ ?_ 31 _ _ _ (hSw.oldRow HBas) undBn rfl infoBn; rotate_left 1; exact rfl; exact rfl)
            try simp only [Act.put, aL1, aL2, aL3]
            refine tn 2 ?_
            try simp only [Act.put, aL1, aL2, aL3]
            refine tn 4 ?_
            try simp only [Act.put, aL1, aL2, aL3]
            refine tn 6 ?_
            try simp only [Act.put, aL1, aL2, aL3]
            refine rd2 1 3 (fun K hK => ?_) (fun K hK => ?_)
            · go_simp
              refine (publics_any _).mono ?_
              rintro e w' ⟨bp, rfl, hZP, hgeP, hb⟩
              try have HAG : Hid (AG w7 bp (.slice (some ⟨w7.heap.size, 0, none⟩) 0 0) [] w') := Lib.hid ⟨HOw.out.kept (grown_of_below hb none) (by simp [Value.ownBlock]), by simp only [Value.ownBlock, ne_eq, Option.some.injEq]; have := (HOw.out.lt w7.heap.size rfl).2; omega, hZP⟩
              refine hK.out _ _ (hHeld.step hb) (fun hHeld => ?_)
              clear hK K
              try simp only [Act.put, aL1, aL2, aL3]
              refine rd1 3 (fun K hK => ?_)
              go_simp
              have hgs := hHeld.below.size
              have HAG : Hid (AG w7 bp (.slice (some ⟨w'.heap.size, 0, none⟩) 0 0) [] (w'.alloc (.cells #[] 63))) := Lib.hid ⟨own_zero hgs, by simp only [Value.ownBlock, ne_eq, Option.some.injEq]; have := blk_lt hZP; omega, (heap_alloc_old _ _ (blk_lt hZP)).trans hZP⟩
              have hS1 := hHeld.step ((Below.refl w'.heap.size w').alloc (Nat.le_refl _) (.cells #[] 63))
              have hZP : (w'.alloc (.cells #[] 63)).heap[bp]? = some (.cells #[.int .i64 (pk 0), .int .i64 (pk 1), .int .i64 (pk 2)] 3 (0, 0)) := HAG.out.row
              generalize w'.alloc (.cells #[] 63) = wA at *
              generalize w'.heap.size = g0 at *
              refine hK.out _ _ hS1 (fun hHeld => ?_)
              clear hK K hS1 hgs
              try simp only [Act.put, aL1, aL2, aL3]
              refine rd1 5 (fun K hK => ?_)
              refine step_append_any rfl _ _ 33 rfl w7.heap.size 63 ic zc 8 ic.bytes undSC hic hzc hsz rfl hcz (by decide) _ [].length (flC []) rfl HAG.out.own a2 more.length n2 (flC more) rfl (flC_len _) (larg_news (HC2.out.below stays_RC (HBW.out.trans (hHeld.below.mono HBW.out.size)))) (flC_one _) (by (try simp only [List.length_nil]); unfold maxLen; omega) (by (try simp only [List.length_nil]); rw [hbc]; omega) hHeld.below.size ?_
              intro v5 w5 hown5 hgr5 hat5
              have HAG1 := Lib.hid (HAG.out.app hown5 hgr5 hat5)
              have hS1 := hHeld.grownO hgr5 (fun g e => (HAG.out.own.lt g e).1) (fun p hp => by simp at hp)
              have hZP := HAG1.out.row
              clear HAG hown5 hgr5 hat5
              have HAG := HAG1
              simp only [List.nil_append] at HAG
              clear HAG1
              refine hK.out _ _ hS1 (fun hHeld => ?_)
              clear hK K hS1
              try simp only [Act.put, aL1, aL2, aL3]
              refine rd1 7 (fun K hK => ?_)
              refine step_append_any rfl _ _ 33 rfl w7.heap.size 63 ic zc 8 ic.bytes undSC hic hzc hsz rfl hcz (by decide) _ more.length (flC more) rfl HAG.out.own a1 first.length n1 (flC first) rfl (flC_len _) (larg_news (HC1.out.below stays_RC (HBW.out.trans (hHeld.below.mono HBW.out.size)))) (flC_one _) (by (try simp only [List.length_nil]); unfold maxLen; omega) (by (try simp only [List.length_nil]); rw [hbc]; omega) hHeld.below.size ?_
              intro v5 w5 hown5 hgr5 hat5
              have HAG1 := Lib.hid (HAG.out.app hown5 hgr5 hat5)
              have hS1 := hHeld.grownO hgr5 (fun g e => (HAG.out.own.lt g e).1) (fun p hp => by simp at hp)
              have hZP := HAG1.out.row
              clear HAG hown5 hgr5 hat5
              rw [← HMF.out] at HAG1
              obtain ⟨a7, k7, rfl, hl7⟩ := larg_ownC HAG1.out.own (fun y hy => by
                rw [HMF.out] at hy
                rcases List.mem_append.1 hy with hy | hy
                · exact good_of HC2.out hy
                · exact good_of HC1.out hy)
              have HL7 := Lib.hid hl7
              clear hl7
              have HAG := HAG1
              
              clear HAG1
              refine hK.out _ _ hS1 (fun hHeld => ?_)
              clear hK K hS1
              try simp only [Act.put, aL1, aL2, aL3]
              refine rd1 8 (fun K hK => ?_)
              go_simp
              refine (find_any x ar (some ⟨bp, 0, none⟩) cr 3 err room PSK (.slice aq pubs.length nq) pubs a7 none k7 0 mf [] _ (gjin (HRm.out.below stays_int (HBW.out.trans (hHeld.below.mono HBW.out.size))) h3 hee hrr HAG.out.row (HQ.out.below stays_Public (HBW.out.trans (hHeld.below.mono HBW.out.size))) hql) HL7.out (larg_nilP _) (by rw [HMF.out, List.length_append]; omega) (by decide) (fun y hy => (List.mem_append.1 (by rw [HMF.out] at hy; exact hy)).elim (HPV2.out y) (HPV1.out y)) (HGl.out.below (HBW.out.trans (hHeld.below.mono HBW.out.size)) HGl.out.size) (HML.out.up (HBW.out.trans (hHeld.below.mono HBW.out.size)))).mono ?_
              rintro e w' ⟨v3, rfl, hv3, hb⟩
              have hZP := (hb.block bp (blk_lt hZP)).trans hZP
              refine hK.out _ _ (hHeld.step hb) (fun hHeld => ?_)
              clear hK K
              try simp only [Act.put, aL1, aL2, aL3]
              refine tn 9 ?_
              try simp only [Act.put, aL1, aL2, aL3]
              refine rdone (NoPanic.normal ?_)
              go_wp2_with fail
              go_meet
              exact ⟨hv3, hHeld⟩
            · go_simp
              have HOw : Hid ((w7.alloc (.cells #[] 63)).drew.ownsRow w7.heap.size 63 8 (.slice (some ⟨w7.heap.size, 0, none⟩) 0 0) 0 []) := Lib.hid (own_zero (Nat.le_refl _))
              have hS1 := RowsS.drew (hHeld.undrew.step ((Below.refl w7.heap.size w7).alloc (Nat.le_refl _) (.cells #[] 63)))
              refine hK.out _ _ hS1 (fun hHeld => ?_)
              clear hK K hS1
              try simp only [Act.put, aL1, aL2, aL3]
              refine rd1 1 (fun K hK => ?_)
              go_simp
              refine (publics_any _).mono ?_
              rintro e w' ⟨bp, rfl, hZP, hgeP, hb⟩
              try have HAG : Hid (AG w7 bp (.slice (some ⟨w7.heap.size, 0, none⟩) 0 0) [] w') := Lib.hid ⟨HOw.out.kept (grown_of_below hb none) (by simp [Value.ownBlock]), by simp only [Value.ownBlock, ne_eq, Option.some.injEq]; have := (HOw.out.lt w7.heap.size rfl).2; omega, hZP⟩
              refine hK.out _ _ (hHeld.step hb) (fun hHeld => ?_)
              clear hK K
              try simp only [Act.put, aL1, aL2, aL3]
              refine rd1 5 (fun K hK => ?_)
              refine step_append_any rfl _ _ 33 rfl w7.heap.size 63 ic zc 8 ic.bytes undSC hic hzc hsz rfl hcz (by decide) _ [].length (flC []) rfl HAG.out.own a2 more.length n2 (flC more) rfl (flC_len _) (larg_news (HC2.out.below stays_RC (HBW.out.trans (hHeld.below.mono HBW.out.size)))) (flC_one _) (by (try simp only [List.length_nil]); unfold maxLen; omega) (by (try simp only [List.length_nil]); rw [hbc]; omega) hHeld.below.size ?_
              intro v5 w5 hown5 hgr5 hat5
              have HAG1 := Lib.hid (HAG.out.app hown5 hgr5 hat5)
              have hS1 := hHeld.grownO hgr5 (fun g e => (HAG.out.own.lt g e).1) (fun p hp => by simp at hp)
              have hZP := HAG1.out.row
              clear HAG hown5 hgr5 hat5
              have HAG := HAG1
              simp only [List.nil_append] at HAG
              clear HAG1
              refine hK.out _ _ hS1 (fun hHeld => ?_)
              clear hK K hS1
              try simp only [Act.put, aL1, aL2, aL3]
              refine rd1 7 (fun K hK => ?_)
              refine step_append_any rfl _ _ 33 rfl w7.heap.size 63 ic zc 8 ic.bytes undSC hic hzc hsz rfl hcz (by decide) _ more.length (flC more) rfl HAG.out.own a1 first.length n1 (flC first) rfl (flC_len _) (larg_news (HC1.out.below stays_RC (HBW.out.trans (hHeld.below.mono HBW.out.size)))) (flC_one _) (by (try simp only [List.length_nil]); unfold maxLen; omega) (by (try simp only [List.length_nil]); rw [hbc]; omega) hHeld.below.size ?_
              intro v5 w5 hown5 hgr5 hat5
              have HAG1 := Lib.hid (HAG.out.app hown5 hgr5 hat5)
              have hS1 := hHeld.grownO hgr5 (fun g e => (HAG.out.own.lt g e).1) (fun p hp => by simp at hp)
              have hZP := HAG1.out.row
              clear HAG hown5 hgr5 hat5
              rw [← HMF.out] at HAG1
              obtain ⟨a7, k7, rfl, hl7⟩ := larg_ownC HAG1.out.own (fun y hy => by
                rw [HMF.out] at hy
                rcases List.mem_append.1 hy with hy | hy
                · exact good_of HC2.out hy
                · exact good_of HC1.out hy)
              have HL7 := Lib.hid hl7
              clear hl7
              have HAG := HAG1
              
              clear HAG1
              refine hK.out _ _ hS1 (fun hHeld => ?_)
              clear hK K hS1
              try simp only [Act.put, aL1, aL2, aL3]
              refine rd1 8 (fun K hK => ?_)
              go_simp
              refine (find_any x ar (some ⟨bp, 0, none⟩) cr 3 err room PSK (.slice aq pubs.length nq) pubs a7 none k7 0 mf [] _ (gjin (HRm.out.below stays_int (HBW.out.trans (hHeld.below.mono HBW.out.size))) h3 hee hrr HAG.out.row (HQ.out.below stays_Public (HBW.out.trans (hHeld.below.mono HBW.out.size))) hql) HL7.out (larg_nilP _) (by rw [HMF.out, List.length_append]; omega) (by decide) (fun y hy => (List.mem_append.1 (by rw [HMF.out] at hy; exact hy)).elim (HPV2.out y) (HPV1.out y)) (HGl.out.below (HBW.out.trans (hHeld.below.mono HBW.out.size)) HGl.out.size) (HML.out.up (HBW.out.trans (hHeld.below.mono HBW.out.size)))).mono ?_
              rintro e w' ⟨v3, rfl, hv3, hb⟩
              have hZP := (hb.block bp (blk_lt hZP)).trans hZP
              refine hK.out _ _ (hHeld.step hb) (fun hHeld => ?_)
              clear hK K
              try simp only [Act.put, aL1, aL2, aL3]
              refine tn 9 ?_
              try simp only [Act.put, aL1, aL2, aL3]
              refine rdone (NoPanic.normal ?_)
              go_wp2_with fail
              go_meet
              exact ⟨hv3, hHeld⟩
          obtain ⟨hv3, hHeld⟩ := hcut
          rename World => w8
          have HBW2 := Lib.hid (HBW.out.trans (hHeld.below.mono HBW.out.size))
          have HBas2 := Lib.hid (blk_below HBas.out hHeld.below (blk_lt HBas.out))
          have HLB2 := Lib.hid (HLB.out.below stays_Public hHeld.below)
          clear HLB
          have HLB := HLB2
          clear HLB2
          have HLv12 := Lib.hid (HLv1.out.below stays_RBl hHeld.below)
          clear HLv1
          have HLv1 := HLv12
          clear HLv12
          have HLv22 := Lib.hid (HLv2.out.below stays_RBl hHeld.below)
          clear HLv2
          have HLv2 := HLv22
          clear HLv22
          have HLv3 := Lib.hid hv3
          clear HBW hHeld HBas
          have HBW := HBW2
          have HBas := HBas2
          clear HBW2 HBas2
          have hbl := blk_lt HBas.out
          have HJ : Hid (judgeV err room PSK pubs.reverse = (judgeV err room PSK pubs)) := Lib.hid (by unfold judgeV; rw [hoursF_rev (differ_nodup HDf.out)])
          rw [HJ.out, HFM.out] at HLv2
          rw [HMF.out] at HLv3
          have hsame := find_same (J := (judgeV err room PSK pubs)) (l := first ++ more) (m := more ++ first) (vows := []) (fun c => by rw [List.mem_append, List.mem_append]; exact Or.comm)
          have hgrow : ∀ y ∈ (findL (judgeV err room PSK pubs) first []), ∃ z ∈ findL (judgeV err room PSK pubs) (first ++ more) [], z.office = y.office ∧ z.why = y.why := fun y hy => find_grows (fun c hc => List.mem_append_left _ hc) hy
          have hn1 : (findL (judgeV err room PSK pubs) first []).length ≤ 24 := findL_len _ _ _
          have hn2 : (findL (judgeV err room PSK pubs) (first ++ more) []).length ≤ 24 := findL_len _ _ _
          have hn3 : (findL (judgeV err room PSK pubs) (more ++ first) []).length ≤ 24 := findL_len _ _ _
          clear HJ HBas HLB hbl
          generalize (findL (judgeV err room PSK pubs) first []) = Y1 at *
          generalize findL (judgeV err room PSK pubs) (first ++ more) [] = Y2 at *
          generalize findL (judgeV err room PSK pubs) (more ++ first) [] = Y3 at *
          have hlen : Y2.length = Y3.length := by have := congrArg List.length hsame; rw [List.length_map, List.length_map] at this; exact this
          have HSame := Lib.hid hsame
          have HGrow := Lib.hid hgrow
          clear hsame hgrow
          obtain ⟨va1, vc1, hve1, -, -⟩ := HLv1.out.slice
          subst hve1
          obtain ⟨va2, vc2, hve2, -, -⟩ := HLv2.out.slice
          subst hve2
          obtain ⟨va3, vc3, hve3, -, -⟩ := HLv3.out.slice
          subst hve3
          have q17 : ((Y2.length : Int) != (Y3.length : Int)) = false := by rw [bne_eq_false_iff_eq]; omega
          have q17b : ((Y2.length : Int) == (Y3.length : Int)) = true := by rw [beq_iff_eq]; omega
          have q17c : (Y2.length : Int) = (Y3.length : Int) := by omega
          have HLN := Lib.hid hlen
          clear hlen q17c
          go_wp2_with fail
          clear q17 q17b
          rename World => w8
          go_loopw [16] (fun iv wx => ∃ k : Nat, k ≤ Y2.length ∧ iv = .int .i64 k ∧ RowsS w8 [] wx) (fun iv _ => Y2.length - (Go.RowKit.intOf iv).toNat)
          case atStart => exact ⟨0, Nat.zero_le _, rfl, RowsS.nil _⟩
          case round =>
            obtain ⟨k, hk, rfl, hr⟩ := hrel
            have HRK := Lib.hid hr
            clear hr
            by_cases hlt : k < Y2.length
            · have hlen := HLN.out
              obtain ⟨y, hy⟩ : ∃ y, Y2[k]? = some y := ⟨_, List.getElem?_eq_getElem hlt⟩
              obtain ⟨z, hz⟩ : ∃ z, Y3[k]? = some z := ⟨_, List.getElem?_eq_getElem (by omega)⟩
              have hyz : (y.office, y.why) = (z.office, z.why) := by
                have h := congrArg (fun l => l[k]?) HSame.out
                simp only [List.getElem?_map, hy, hz, Option.map_some, Option.some.injEq] at h
                exact h
              simp only [Prod.mk.injEq] at hyz
              obtain ⟨bxy, oy, csy, rfl, hbX, -, hry, uy, rfl, -, huy⟩ := HLv2.out.at hy
              obtain ⟨aly, lcy, rfl, -, -⟩ := huy.slice
              have HXc : Hid (w8.rangeAt bxy (oy + k * 9) [.int .i64 y.office, .int .i64 y.why, .slice aly y.claims.length lcy, .int .i64 y.prom.office, .int .i64 y.prom.since, .int .i64 y.prom.till, .int .i64 y.prom.litres, .int .i64 y.prom.e, .int .i64 y.prom.s]) := Lib.hid hry
              clear hry huy
              obtain ⟨bxz, oz, csz, rfl, hbY, -, hrz, uz, rfl, -, huz⟩ := HLv3.out.at hz
              obtain ⟨alz, lcz, rfl, -, -⟩ := huz.slice
              have HYc : Hid (w8.rangeAt bxz (oz + k * 9) [.int .i64 z.office, .int .i64 z.why, .slice alz z.claims.length lcz, .int .i64 z.prom.office, .int .i64 z.prom.since, .int .i64 z.prom.till, .int .i64 z.prom.litres, .int .i64 z.prom.e, .int .i64 z.prom.s]) := Lib.hid hrz
              clear hrz huz
              have q1 : (y.office != z.office) = false := by rw [bne_eq_false_iff_eq]; exact hyz.1
              have q1b : (y.office == z.office) = true := by rw [beq_iff_eq]; exact hyz.1
              have q2 : (y.why != z.why) = false := by rw [bne_eq_false_iff_eq]; exact hyz.2
              have q2b : (y.why == z.why) = true := by rw [beq_iff_eq]; exact hyz.2
              have hlt' : (k : Int) < (Y2.length : Int) := by omega
              have hlt3 : (k : Int) < (Y3.length : Int) := by omega
              have hltn : k < Y3.length := by omega
              clear hyz hy hz hlen
              go_upto_region 22 with fail
              refine wp_region_noPanic ?_
              refine wp_region_held_drew (S := fun cw => RowsS w8 [] cw) (by kernel_rfl) (HRK.out.drew) (fun hHeld => ?_)
              refine tn 0 ?_
              try simp only [Act.put, aL1, aL2, aL3]
              refine tn 1 ?_
              try simp only [Act.put, aL1, aL2, aL3]
              refine tn 2 ?_
              try simp only [Act.put, aL1, aL2, aL3]
              refine tn 3 ?_
              try simp only [Act.put, aL1, aL2, aL3]
              refine tn 4 ?_ (hx := fun wz hSw => by have e4 := (rangeAt_below HXc.out hSw.below hbX) 0 (.int .i64 y.office) rfl; rw [Nat.add_zero] at e4; go_simp; try with_reducible rfl)
              try simp only [Act.put, aL1, aL2, aL3]
              refine tn 5 ?_
              try simp only [Act.put, aL1, aL2, aL3]
              refine tn 6 ?_
              try simp only [Act.put, aL1, aL2, aL3]
              refine tn 7 ?_
              try simp only [Act.put, aL1, aL2, aL3]
              refine tn 8 ?_
              try simp only [Act.put, aL1, aL2, aL3]
              refine tn 9 ?_ (hx := fun wz hSw => by have e4 := (rangeAt_below HYc.out hSw.below hbY) 0 (.int .i64 z.office) rfl; rw [Nat.add_zero] at e4; go_simp; try with_reducible rfl)
              try simp only [Act.put, aL1, aL2, aL3]
              refine tn 10 ?_
              try simp only [Act.put, aL1, aL2, aL3]
              refine tn 11 ?_
              try simp only [Act.put, aL1, aL2, aL3]
              refine tn 12 ?_
              try simp only [Act.put, aL1, aL2, aL3]
              refine tn 13 ?_
              try simp only [Act.put, aL1, aL2, aL3]
              refine tn 14 ?_
              try simp only [Act.put, aL1, aL2, aL3]
              refine tn 15 ?_
              try simp only [Act.put, aL1, aL2, aL3]
              refine tn 16 ?_ (hx := fun wz hSw => by have e4 := (rangeAt_below HXc.out hSw.below hbX) 1 (.int .i64 y.why) rfl; go_simp; try with_reducible rfl)
              try simp only [Act.put, aL1, aL2, aL3]
              refine tn 17 ?_
              try simp only [Act.put, aL1, aL2, aL3]
              refine tn 18 ?_
              try simp only [Act.put, aL1, aL2, aL3]
              refine tn 19 ?_
              try simp only [Act.put, aL1, aL2, aL3]
              refine tn 20 ?_
              try simp only [Act.put, aL1, aL2, aL3]
              refine tn 21 ?_ (hx := fun wz hSw => by have e4 := (rangeAt_below HYc.out hSw.below hbY) 1 (.int .i64 z.why) rfl; go_simp; try with_reducible rfl)
              try simp only [Act.put, aL1, aL2, aL3]
              refine tn 22 ?_
              try simp only [Act.put, aL1, aL2, aL3]
              refine tn 23 ?_
              try simp only [Act.put, aL1, aL2, aL3]
              refine rdone (NoPanic.normal ?_)
              go_wp2_with fail
              go_roundw
              case rel => exact ⟨k + 1, by omega, by go_num, hHeld⟩
              case measure => simp [Go.RowKit.intOf]; omega
            · obtain rfl : k = Y2.length := by omega
              have hlt' : ¬ (Y2.length : Int) < (Y2.length : Int) := by omega
              clear hlt hk
              go_wp2_with fail
              rename World => wy
              go_loopw [17] (fun iv wx => ∃ k : Nat, k ≤ Y1.length ∧ iv = .int .i64 k ∧ RowsS w8 [] wx) (fun iv _ => Y1.length - (Go.RowKit.intOf iv).toNat)
              case atStart => exact ⟨0, Nat.zero_le _, rfl, HRK.out⟩
              case round =>
                clear HRK
                obtain ⟨k, hk, rfl, hr⟩ := hrel
                have HRK := Lib.hid hr
                clear hr
                by_cases hlt : k < Y1.length
                · obtain ⟨y, hy⟩ : ∃ y, Y1[k]? = some y := ⟨_, List.getElem?_eq_getElem hlt⟩
                  have hhas : hasB Y2 y.office y.why = true := hasB_iff.2 (HGrow.out y (List.mem_of_getElem? hy))
                  have HHas : Hid (∀ w0, Below w8.heap.size w8 w0 → Calls Tryz.prog 13 #[.slice va2 Y2.length vc2, .int .i64 y.office, .int .i64 y.why] w0 fun e w' => e = .returned (.bool true) ∧ Below w0.heap.size w0 w') := Lib.hid (fun w0 hb => by have h := has_any Y2 _ y.office y.why w0 (HLv2.out.below stays_RBl hb) (by omega); rw [hhas] at h; exact h)
                  obtain ⟨bxy, oy, csy, rfl, hbX, -, hry, uy, rfl, -, huy⟩ := HLv1.out.at hy
                  obtain ⟨aly, lcy, rfl, -, -⟩ := huy.slice
                  have HXc : Hid (w8.rangeAt bxy (oy + k * 9) [.int .i64 y.office, .int .i64 y.why, .slice aly y.claims.length lcy, .int .i64 y.prom.office, .int .i64 y.prom.since, .int .i64 y.prom.till, .int .i64 y.prom.litres, .int .i64 y.prom.e, .int .i64 y.prom.s]) := Lib.hid hry
                  clear hry huy
                  have hlt1 : (k : Int) < (Y1.length : Int) := by omega
                  clear hy hhas
                  go_upto_region 27 with fail
                  refine wp_region_noPanic ?_
                  refine wp_region_held_drew (S := fun cw => RowsS w8 [] cw) (by kernel_rfl) (HRK.out.drew) (fun hHeld => ?_)
                  refine tn 0 ?_
                  try simp only [Act.put, aL1, aL2, aL3]
                  refine tn 1 ?_
                  try simp only [Act.put, aL1, aL2, aL3]
                  refine tn 2 ?_
                  try simp only [Act.put, aL1, aL2, aL3]
                  refine tn 3 ?_
                  try simp only [Act.put, aL1, aL2, aL3]
                  refine tn 4 ?_
                  try simp only [Act.put, aL1, aL2, aL3]
                  refine tn 5 ?_ (hx := fun wz hSw => by have e4 := (rangeAt_below HXc.out hSw.below hbX) 0 (.int .i64 y.office) rfl; rw [Nat.add_zero] at e4; go_simp; try with_reducible rfl)
                  try simp only [Act.put, aL1, aL2, aL3]
                  refine tn 6 ?_
                  try simp only [Act.put, aL1, aL2, aL3]
                  refine tn 7 ?_
                  try simp only [Act.put, aL1, aL2, aL3]
                  refine tn 8 ?_
                  try simp only [Act.put, aL1, aL2, aL3]
                  refine tn 9 ?_
                  try simp only [Act.put, aL1, aL2, aL3]
                  refine tn 10 ?_ (hx := fun wz hSw => by have e4 := (rangeAt_below HXc.out hSw.below hbX) 1 (.int .i64 y.why) rfl; go_simp; try with_reducible rfl)
                  try simp only [Act.put, aL1, aL2, aL3]
                  refine rd1 11 (fun K hK => ?_)
                  go_simp
                  refine (HHas.out _ hHeld.below).mono ?_
                  rintro e w' ⟨rfl, hb⟩
                  refine hK.out _ _ (hHeld.step hb) (fun hHeld => ?_)
                  clear hK K
                  try simp only [Act.put, aL1, aL2, aL3]
                  refine tn 12 ?_
                  try simp only [Act.put, aL1, aL2, aL3]
                  refine rdone (NoPanic.normal ?_)
                  go_wp2_with fail
                  go_roundw
                  case rel => exact ⟨k + 1, by omega, by go_num, hHeld⟩
                  case measure => simp [Go.RowKit.intOf]; omega
                · obtain rfl : k = Y1.length := by omega
                  have hlt1 : ¬ (Y1.length : Int) < (Y1.length : Int) := by omega
                  clear hlt hk
                  go_wp2_with fail
                  go_ret
                  exact ⟨rfl, HBW.out.trans (HRK.out.below.mono HBW.out.size)⟩
end Go.Proofs.YtjbjpkhibcnenaaGreatDoor

