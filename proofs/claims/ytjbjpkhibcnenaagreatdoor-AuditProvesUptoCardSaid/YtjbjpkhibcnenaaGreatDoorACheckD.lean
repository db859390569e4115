/- audit.Check. -/
import Derived.Test.YtjbjpkhibcnenaaGreatDoorACheckC
namespace Go.Proofs.YtjbjpkhibcnenaaGreatDoor
open Go.RowKit
theorem check_is {J : JV} {o why : Int} {l : List CV} {p : PV} {b : Bool} (hk : ∀ c ∈ l, J.K c = true) (ho : 0 ≤ o ∧ o < 3) (hc : condB J ⟨o, why, l, p⟩ = b) : checkB J ⟨o, why, l, p⟩ = b := by
  unfold checkB
  rw [hc, decide_eq_true ho, List.all_eq_true.2 hk]
  rfl
theorem check_office {J : JV} {x : BlV} (ho : ¬ (0 ≤ x.office ∧ x.office < 3)) : checkB J x = false := by unfold checkB; rw [decide_eq_false ho]; rfl
theorem check_counts {J : JV} {x : BlV} {c : CV} (hc : c ∈ x.claims) (hk : J.K c = false) : checkB J x = false := by
  have : x.claims.all J.K = false := by rw [List.all_eq_false]; exact ⟨c, hc, by rw [hk]; decide⟩
  unfold checkB
  rw [this, Bool.and_false, Bool.false_and]
theorem check_why {J : JV} {x : BlV} (h : x.why < 0 ∨ 6 ≤ x.why) : checkB J x = false := by
  unfold checkB
  rw [condB_is, if_neg (by omega), if_neg (by omega), if_neg (by omega), if_neg (by omega), if_neg (by omega), if_neg (by omega), Bool.and_false]
theorem check_long {J : JV} {x : BlV} (h : 4 < x.claims.length) : checkB J x = false := by
  obtain ⟨o, why, l, p⟩ := x
  unfold checkB
  rw [condB_is]
  rcases l with _ | ⟨c1, _ | ⟨c2, _ | ⟨c3, _ | ⟨c4, _ | ⟨c5, t⟩⟩⟩⟩⟩ <;> first | (simp at h; done) | simp [cFork, cBal, cRange, cMouth, cMiddle, cProm]
set_option maxRecDepth 100000 in
set_option maxHeartbeats 8000000 in
theorem check_any (x : BsX) (ar ap : Option Addr) (cr cp : Nat) (err : Int) (room ps : List Int) (vq : Value) (pubs : List PublicV) (xo xw : Int) (xc : List CV) (xp : PV) (al : Option Addr) (lc : Nat) (w : World) (hI : JIn ar ap cr cp err room ps vq pubs w) (hL : LArg RC 8 (.slice al xc.length lc) xc w) (hC : ∀ c ∈ xc, COk c ∧ c.prev.size ≤ 2000000) (hl : xc.length ≤ 1000) (hO : POk xp) (hg : Glob w) (hml : MLen w) :
    Calls Tryz.prog 11 #[.agg #[.string x.nm, .slice x.a1 x.n1 x.c1, .int .i64 x.k, .slice x.a3 x.n3 x.c3, .slice x.a4 x.n4 x.c4, .slice x.a5 x.n5 x.c5, .slice x.a6 x.n6 x.c6, .slice x.a7 x.n7 x.c7, .slice x.a8 x.n8 x.c8, .slice ar 3 cr, .int .i64 err], .slice ap 3 cp, vq, .agg #[.int .i64 xo, .int .i64 xw, .slice al xc.length lc, .int .i64 xp.office, .int .i64 xp.since, .int .i64 xp.till, .int .i64 xp.litres, .int .i64 xp.e, .int .i64 xp.s]] w (RetB (checkB (judgeV err room ps pubs) ⟨xo, xw, xc, xp⟩) w) := by
  have HI := Lib.hid hI
  have HL := Lib.hid hL
  have HGl := Lib.hid hg
  have HML := Lib.hid hml
  have HPI := Lib.hid hI.pbI
  have hpl := hI.hl
  have s1 : (w.alloc (.cells #[.string x.nm, .slice x.a1 x.n1 x.c1, .int .i64 x.k, .slice x.a3 x.n3 x.c3, .slice x.a4 x.n4 x.c4, .slice x.a5 x.n5 x.c5, .slice x.a6 x.n6 x.c6, .slice x.a7 x.n7 x.c7, .slice x.a8 x.n8 x.c8, .slice ar 3 cr, .int .i64 err] 31)).heap.size = w.heap.size + 1 := by simp
  have HR : Hid (RowsS w [(w.heap.size, .cells #[.string x.nm, .slice x.a1 x.n1 x.c1, .int .i64 x.k, .slice x.a3 x.n3 x.c3, .slice x.a4 x.n4 x.c4, .slice x.a5 x.n5 x.c5, .slice x.a6 x.n6 x.c6, .slice x.a7 x.n7 x.c7, .slice x.a8 x.n8 x.c8, .slice ar 3 cr, .int .i64 err] 31), ((w.heap.size + 1), .cells #[.int .i64 xo, .int .i64 xw, .slice al xc.length lc, .int .i64 xp.office, .int .i64 xp.since, .int .i64 xp.till, .int .i64 xp.litres, .int .i64 xp.e, .int .i64 xp.s] 40)] ((w.alloc (.cells #[.string x.nm, .slice x.a1 x.n1 x.c1, .int .i64 x.k, .slice x.a3 x.n3 x.c3, .slice x.a4 x.n4 x.c4, .slice x.a5 x.n5 x.c5, .slice x.a6 x.n6 x.c6, .slice x.a7 x.n7 x.c7, .slice x.a8 x.n8 x.c8, .slice ar 3 cr, .int .i64 err] 31)).alloc (.cells #[.int .i64 xo, .int .i64 xw, .slice al xc.length lc, .int .i64 xp.office, .int .i64 xp.since, .int .i64 xp.till, .int .i64 xp.litres, .int .i64 xp.e, .int .i64 xp.s] 40))) := Lib.hid (by
    have := ((RowsS.nil w).alloc (.cells #[.string x.nm, .slice x.a1 x.n1 x.c1, .int .i64 x.k, .slice x.a3 x.n3 x.c3, .slice x.a4 x.n4 x.c4, .slice x.a5 x.n5 x.c5, .slice x.a6 x.n6 x.c6, .slice x.a7 x.n7 x.c7, .slice x.a8 x.n8 x.c8, .slice ar 3 cr, .int .i64 err] 31)).alloc (.cells #[.int .i64 xo, .int .i64 xw, .slice al xc.length lc, .int .i64 xp.office, .int .i64 xp.since, .int .i64 xp.till, .int .i64 xp.litres, .int .i64 xp.e, .int .i64 xp.s] 40)
    rw [s1] at this
    exact this)
  clear hI hL hg hml s1
  go_enter Tryz.func11, Tryz.ntmps11
  go_upto_region 1 with fail
  generalize ((w.alloc (.cells #[.string x.nm, .slice x.a1 x.n1 x.c1, .int .i64 x.k, .slice x.a3 x.n3 x.c3, .slice x.a4 x.n4 x.c4, .slice x.a5 x.n5 x.c5, .slice x.a6 x.n6 x.c6, .slice x.a7 x.n7 x.c7, .slice x.a8 x.n8 x.c8, .slice ar 3 cr, .int .i64 err] 31)).alloc (.cells #[.int .i64 xo, .int .i64 xw, .slice al xc.length lc, .int .i64 xp.office, .int .i64 xp.since, .int .i64 xp.till, .int .i64 xp.litres, .int .i64 xp.e, .int .i64 xp.s] 40)) = w0 at *
  go_wp2_with (refine wpList_load_rowW (by first | (go_simp; done) | rfl) 31 _ rfl _ rfl 31 _ _ _ (HR.out.row 0 rfl) undBn rfl infoBn ?_)
  refine (newJudge_any x ar ap cr cp err room ps vq pubs _ (HI.out.below HR.out.below)).mono ?_
  rintro e w1 ⟨jb, mb, rfl, hJ, hgj, hb1⟩
  have HR1 := Lib.hid (HR.out.step hb1)
  have HJ1 := Lib.hid hJ
  clear hb1 hJ hgj HR
  go_wp2_with fail
  refine (conditions_any jb _).mono ?_
  rintro e w2 ⟨rfl, hw2⟩
  have hal : Below w1.heap.size w1 w2 := by rw [hw2]; exact (Below.refl _ _).alloc (Nat.le_refl _) _
  have HJ2 := Lib.hid (HJ1.out.below hal)
  have HR2 : Hid (RowsS w [(w.heap.size, .cells #[.string x.nm, .slice x.a1 x.n1 x.c1, .int .i64 x.k, .slice x.a3 x.n3 x.c3, .slice x.a4 x.n4 x.c4, .slice x.a5 x.n5 x.c5, .slice x.a6 x.n6 x.c6, .slice x.a7 x.n7 x.c7, .slice x.a8 x.n8 x.c8, .slice ar 3 cr, .int .i64 err] 31), ((w.heap.size + 1), .cells #[.int .i64 xo, .int .i64 xw, .slice al xc.length lc, .int .i64 xp.office, .int .i64 xp.since, .int .i64 xp.till, .int .i64 xp.litres, .int .i64 xp.e, .int .i64 xp.s] 40), (w1.heap.size, .cells #[.func (.func 62) #[.pointer (some ⟨jb, 0, none⟩)] #[], .func (.func 63) #[.pointer (some ⟨jb, 0, none⟩)] #[], .func (.func 64) #[.pointer (some ⟨jb, 0, none⟩)] #[], .func (.func 65) #[.pointer (some ⟨jb, 0, none⟩)] #[], .func (.func 66) #[.pointer (some ⟨jb, 0, none⟩)] #[], .func (.func 67) #[.pointer (some ⟨jb, 0, none⟩)] #[]] 79)] w2) := Lib.hid (by rw [hw2]; exact HR1.out.alloc _)
  clear hw2 hal HJ1 HR1
  generalize w1.heap.size = fb at *
  have x0 := HR2.out.cell 1 0 rfl rfl
  have x1 := HR2.out.cell 1 1 rfl rfl
  have x2 := HR2.out.cell 1 2 rfl rfl
  by_cases h1 : xw < 0
  · have HT : Hid (checkB (judgeV err room ps pubs) ⟨xo, xw, xc, xp⟩ = false) := Lib.hid (check_why (Or.inl h1))
    go_wp2_with fail
    go_ret
    exact retB_mk HT.out HR2.out.below
  by_cases h2 : 6 ≤ xw
  · have HT : Hid (checkB (judgeV err room ps pubs) ⟨xo, xw, xc, xp⟩ = false) := Lib.hid (check_why (Or.inr h2))
    go_wp2_with fail
    go_ret
    exact retB_mk HT.out HR2.out.below
  by_cases hoff : 0 ≤ xo ∧ xo < 3
  rotate_left
  · have HT : Hid (checkB (judgeV err room ps pubs) ⟨xo, xw, xc, xp⟩ = false) := Lib.hid (check_office hoff)
    have HOf : Hid (Calls Tryz.prog 32 #[.pointer (some ⟨jb, 0, none⟩), .int .i64 xo] w2 fun e w' => e = .returned (.bool false) ∧ w2 = w') := Lib.hid (by have h := office_any jb mb ar ap cr cp err room ps pubs xo w2 HJ2.out; rw [officeB_f hoff] at h; exact h)
    clear hoff
    go_wp2_with fail
    refine HOf.out.mono ?_
    rintro e w3 ⟨rfl, rfl⟩
    go_wp2_with fail
    go_ret
    exact retB_mk HT.out HR2.out.below
  have HOf : Hid (Calls Tryz.prog 32 #[.pointer (some ⟨jb, 0, none⟩), .int .i64 xo] w2 fun e w' => e = .returned (.bool true) ∧ w2 = w') := Lib.hid (by have h := office_any jb mb ar ap cr cp err room ps pubs xo w2 HJ2.out; rw [officeB_t hoff] at h; exact h)
  go_wp2_with fail
  refine HOf.out.mono ?_
  rintro e w3 ⟨rfl, rfl⟩
  clear HOf
  by_cases h4 : 4 < xc.length
  · have h5 : (4 : Int) < (xc.length : Int) := by omega
    have HT : Hid (checkB (judgeV err room ps pubs) ⟨xo, xw, xc, xp⟩ = false) := Lib.hid (check_long h4)
    go_wp2_with fail
    go_ret
    exact retB_mk HT.out HR2.out.below
  have h5 : ¬ (4 : Int) < (xc.length : Int) := by omega
  go_wp2_with fail
  go_loopw [45] (fun iv wx => ∃ k : Nat, k ≤ xc.length ∧ iv = .int .i64 k ∧ (∀ (i : Nat) (c : CV), i < k → xc[i]? = some c → kB ps c = true) ∧ JudgeAt jb mb ar ap cr cp err room ps pubs wx ∧ RowsS w [(w.heap.size, .cells #[.string x.nm, .slice x.a1 x.n1 x.c1, .int .i64 x.k, .slice x.a3 x.n3 x.c3, .slice x.a4 x.n4 x.c4, .slice x.a5 x.n5 x.c5, .slice x.a6 x.n6 x.c6, .slice x.a7 x.n7 x.c7, .slice x.a8 x.n8 x.c8, .slice ar 3 cr, .int .i64 err] 31), ((w.heap.size + 1), .cells #[.int .i64 xo, .int .i64 xw, .slice al xc.length lc, .int .i64 xp.office, .int .i64 xp.since, .int .i64 xp.till, .int .i64 xp.litres, .int .i64 xp.e, .int .i64 xp.s] 40), (fb, .cells #[.func (.func 62) #[.pointer (some ⟨jb, 0, none⟩)] #[], .func (.func 63) #[.pointer (some ⟨jb, 0, none⟩)] #[], .func (.func 64) #[.pointer (some ⟨jb, 0, none⟩)] #[], .func (.func 65) #[.pointer (some ⟨jb, 0, none⟩)] #[], .func (.func 66) #[.pointer (some ⟨jb, 0, none⟩)] #[], .func (.func 67) #[.pointer (some ⟨jb, 0, none⟩)] #[]] 79)] wx) (fun iv _ => xc.length - (Go.RowKit.intOf iv).toNat)
  case atStart => exact ⟨0, Nat.zero_le _, rfl, fun i c h => absurd h (Nat.not_lt_zero _), HJ2.out, HR2.out⟩
  case round =>
    obtain ⟨k, hk, rfl, hks, hj, hr⟩ := hrel
    have HKk := Lib.hid hks
    have HJ3 := Lib.hid hj
    have HR3 := Lib.hid hr
    clear hks hj hr HJ2 HR2 x0 x1 x2 h5
    by_cases hlt : k < xc.length
    · obtain ⟨c, hc⟩ : ∃ c, xc[k]? = some c := ⟨_, List.getElem?_eq_getElem hlt⟩
      obtain ⟨b, o, cs, rfl, hbl, -, hrg, hcs, -⟩ := HL.out.at hc
      unfold cellsC at hcs
      subst hcs
      obtain ⟨hcO, hcp⟩ := hC c (List.mem_of_getElem? hc)
      have HRG := Lib.hid (rangeAt_below hrg HR3.out.below hbl)
      have HC := Lib.hid hc
      have ha : Below wr.heap.size wr (wr.alloc (.cells #[.int .i64 c.office, .int .i64 c.hour, .int .i64 c.inn, .int .i64 c.out, .int .i64 c.store, .string c.prev, .int .i64 c.e, .int .i64 c.s] 63)) := (Below.refl _ _).alloc (Nat.le_refl _) _
      have HJ4 := Lib.hid (HJ3.out.below ha)
      have HR4 := Lib.hid (HR3.out.step ha)
      have HCR := Lib.hid (heap_alloc_new wr (.cells #[.int .i64 c.office, .int .i64 c.hour, .int .i64 c.inn, .int .i64 c.out, .int .i64 c.store, .string c.prev, .int .i64 c.e, .int .i64 c.s] 63))
      clear hc hrg ha HJ3 HR3
      go_upto_region 8 with (refine wpList_load_range (by first | (go_simp; done) | rfl) 63 _ rfl _ _ rfl _ _ HRG.out undCm rfl infoCm ?_)
      clear HRG
      generalize wr.alloc (.cells #[.int .i64 c.office, .int .i64 c.hour, .int .i64 c.inn, .int .i64 c.out, .int .i64 c.store, .string c.prev, .int .i64 c.e, .int .i64 c.s] 63) = w4 at *
      generalize wr.heap.size = bC at *
      go_wp2_with (refine wpList_load_rowW (by first | (go_simp; done) | rfl) 63 _ rfl _ rfl 63 _ _ _ HCR.out undCm rfl infoCm ?_)
      refine (counts_any jb mb ar ap cr cp err room ps pubs c _ HJ4.out hcO hcp (HGl.out.below HR4.out.below HGl.out.size) (HML.out.up HR4.out.below)).mono ?_
      rintro e w5 ⟨rfl, hb5⟩
      have HJ5 := Lib.hid (HJ4.out.below hb5)
      have HR5 := Lib.hid (HR4.out.step hb5)
      clear hb5 HJ4 HR4 HCR
      cases hkc : kB ps c with
      | true =>
        have HKn : Hid (∀ (i : Nat) (d : CV), i < k + 1 → xc[i]? = some d → kB ps d = true) := Lib.hid (fun i d hi hd => by
          by_cases e : i = k
          · subst e; rw [HC.out] at hd; cases hd; exact hkc
          · exact HKk.out i d (by omega) hd)
        clear hkc
        go_wp2_with fail
        go_roundw
        case rel => exact ⟨k + 1, by omega, by go_num, HKn.out, HJ5.out, HR5.out⟩
        case measure => simp [Go.RowKit.intOf]; omega
      | false =>
        have HT : Hid (checkB (judgeV err room ps pubs) ⟨xo, xw, xc, xp⟩ = false) := Lib.hid (check_counts (List.mem_of_getElem? HC.out) hkc)
        clear hkc
        go_wp2_with fail
        go_ret
        exact retB_mk HT.out HR5.out.below
    · obtain rfl : k = xc.length := by omega
      have HKs : Hid (∀ c ∈ xc, kB ps c = true) := Lib.hid (fun c hc => by
        obtain ⟨i, hi⟩ := List.getElem?_of_mem hc
        exact HKk.out i c (List.getElem?_eq_some_iff.1 hi).1 hi)
      clear HKk hlt hk h4
      go_upto_region 11 with fail
      obtain rfl | rfl | rfl | rfl | rfl | rfl : xw = 0 ∨ xw = 1 ∨ xw = 2 ∨ xw = 3 ∨ xw = 4 ∨ xw = 5 := by omega
      · clear h1 h2
        have HTk : Hid (checkB (judgeV err room ps pubs) ⟨xo, 0, xc, xp⟩ = cFork ⟨xo, 0, xc, xp⟩) := Lib.hid (check_is HKs.out hoff ((condB_is _ _).trans (by simp)))
        refine wp_region_noPanic ?_
        refine wp_region_held_drew (S := fun cw => RowsS w [(w.heap.size, .cells #[.string x.nm, .slice x.a1 x.n1 x.c1, .int .i64 x.k, .slice x.a3 x.n3 x.c3, .slice x.a4 x.n4 x.c4, .slice x.a5 x.n5 x.c5, .slice x.a6 x.n6 x.c6, .slice x.a7 x.n7 x.c7, .slice x.a8 x.n8 x.c8, .slice ar 3 cr, .int .i64 err] 31), ((w.heap.size + 1), .cells #[.int .i64 xo, .int .i64 0, .slice al xc.length lc, .int .i64 xp.office, .int .i64 xp.since, .int .i64 xp.till, .int .i64 xp.litres, .int .i64 xp.e, .int .i64 xp.s] 40), (fb, .cells #[.func (.func 62) #[.pointer (some ⟨jb, 0, none⟩)] #[], .func (.func 63) #[.pointer (some ⟨jb, 0, none⟩)] #[], .func (.func 64) #[.pointer (some ⟨jb, 0, none⟩)] #[], .func (.func 65) #[.pointer (some ⟨jb, 0, none⟩)] #[], .func (.func 66) #[.pointer (some ⟨jb, 0, none⟩)] #[], .func (.func 67) #[.pointer (some ⟨jb, 0, none⟩)] #[]] 79)] cw) (by kernel_rfl) (HR3.out.drew) (fun hHeld => ?_)
        refine tn 0 ?_
        try simp only [Act.put, aL1, aL2, aL3]
        refine tn 1 ?_
        try simp only [Act.put, aL1, aL2, aL3]
        refine tn 2 ?_ (hx := fun wz hSw => by have e4 := hSw.cell 1 1 rfl rfl; go_simp; try with_reducible rfl)
        try simp only [Act.put, aL1, aL2, aL3]
        refine tn 3 ?_
        try simp only [Act.put, aL1, aL2, aL3]
        refine tn 4 ?_ (hx := fun wz hSw => by have e4 := hSw.cell 2 0 rfl rfl; go_simp; try with_reducible rfl)
        try simp only [Act.put, aL1, aL2, aL3]
        refine tn 5 ?_ (hx := fun wz hSw => by refine exec_load_row 40 ?_ ?_ _ ?_ 40 _ _ _ (hSw.row 1 rfl) undBl rfl infoBl; rotate_left 1; exact rfl; exact rfl)
        try simp only [Act.put, aL1, aL2, aL3]
        refine rd1 6 (fun K hK => ?_)
        go_simp
        refine (isFork_any jb mb ar ap cr cp err room ps pubs xo 0 xc xp al lc _ (HJ3.out.below (Below.refl _ _).drew) (HL.out.below stays_RC hHeld.below) hl HKs.out HPI.out hpl).mono ?_
        rintro e w' ⟨rfl, hb⟩
        refine hK.out _ _ (hHeld.step hb) (fun hHeld => ?_)
        clear hK K
        try simp only [Act.put, aL1, aL2, aL3]
        refine tn 7 ?_
        try simp only [Act.put, aL1, aL2, aL3]
        refine rdone (NoPanic.normal ?_)
        go_wp2_with fail
        go_ret
        exact retB_mk HTk.out hHeld.below
      · clear h1 h2
        have HTk : Hid (checkB (judgeV err room ps pubs) ⟨xo, 1, xc, xp⟩ = cBal (judgeV err room ps pubs) ⟨xo, 1, xc, xp⟩) := Lib.hid (check_is HKs.out hoff ((condB_is _ _).trans (by simp)))
        refine wp_region_noPanic ?_
        refine wp_region_held_drew (S := fun cw => RowsS w [(w.heap.size, .cells #[.string x.nm, .slice x.a1 x.n1 x.c1, .int .i64 x.k, .slice x.a3 x.n3 x.c3, .slice x.a4 x.n4 x.c4, .slice x.a5 x.n5 x.c5, .slice x.a6 x.n6 x.c6, .slice x.a7 x.n7 x.c7, .slice x.a8 x.n8 x.c8, .slice ar 3 cr, .int .i64 err] 31), ((w.heap.size + 1), .cells #[.int .i64 xo, .int .i64 1, .slice al xc.length lc, .int .i64 xp.office, .int .i64 xp.since, .int .i64 xp.till, .int .i64 xp.litres, .int .i64 xp.e, .int .i64 xp.s] 40), (fb, .cells #[.func (.func 62) #[.pointer (some ⟨jb, 0, none⟩)] #[], .func (.func 63) #[.pointer (some ⟨jb, 0, none⟩)] #[], .func (.func 64) #[.pointer (some ⟨jb, 0, none⟩)] #[], .func (.func 65) #[.pointer (some ⟨jb, 0, none⟩)] #[], .func (.func 66) #[.pointer (some ⟨jb, 0, none⟩)] #[], .func (.func 67) #[.pointer (some ⟨jb, 0, none⟩)] #[]] 79)] cw) (by kernel_rfl) (HR3.out.drew) (fun hHeld => ?_)
        refine tn 0 ?_
        try simp only [Act.put, aL1, aL2, aL3]
        refine tn 1 ?_
        try simp only [Act.put, aL1, aL2, aL3]
        refine tn 2 ?_ (hx := fun wz hSw => by have e4 := hSw.cell 1 1 rfl rfl; go_simp; try with_reducible rfl)
        try simp only [Act.put, aL1, aL2, aL3]
        refine tn 3 ?_
        try simp only [Act.put, aL1, aL2, aL3]
        refine tn 4 ?_ (hx := fun wz hSw => by have e4 := hSw.cell 2 1 rfl rfl; go_simp; try with_reducible rfl)
        try simp only [Act.put, aL1, aL2, aL3]
        refine tn 5 ?_ (hx := fun wz hSw => by refine exec_load_row 40 ?_ ?_ _ ?_ 40 _ _ _ (hSw.row 1 rfl) undBl rfl infoBl; rotate_left 1; exact rfl; exact rfl)
        try simp only [Act.put, aL1, aL2, aL3]
        refine rd1 6 (fun K hK => ?_)
        go_simp
        refine (isBalance_any jb mb ar ap cr cp err room ps pubs xo 1 xc xp al lc _ (HJ3.out.below (Below.refl _ _).drew) (HL.out.below stays_RC hHeld.below) hl HKs.out HPI.out hpl hoff).mono ?_
        rintro e w' ⟨rfl, hb⟩
        refine hK.out _ _ (hHeld.step hb) (fun hHeld => ?_)
        clear hK K
        try simp only [Act.put, aL1, aL2, aL3]
        refine tn 7 ?_
        try simp only [Act.put, aL1, aL2, aL3]
        refine rdone (NoPanic.normal ?_)
        go_wp2_with fail
        go_ret
        exact retB_mk HTk.out hHeld.below
      · clear h1 h2
        have HTk : Hid (checkB (judgeV err room ps pubs) ⟨xo, 2, xc, xp⟩ = cRange (judgeV err room ps pubs) ⟨xo, 2, xc, xp⟩) := Lib.hid (check_is HKs.out hoff ((condB_is _ _).trans (by simp)))
        refine wp_region_noPanic ?_
        refine wp_region_held_drew (S := fun cw => RowsS w [(w.heap.size, .cells #[.string x.nm, .slice x.a1 x.n1 x.c1, .int .i64 x.k, .slice x.a3 x.n3 x.c3, .slice x.a4 x.n4 x.c4, .slice x.a5 x.n5 x.c5, .slice x.a6 x.n6 x.c6, .slice x.a7 x.n7 x.c7, .slice x.a8 x.n8 x.c8, .slice ar 3 cr, .int .i64 err] 31), ((w.heap.size + 1), .cells #[.int .i64 xo, .int .i64 2, .slice al xc.length lc, .int .i64 xp.office, .int .i64 xp.since, .int .i64 xp.till, .int .i64 xp.litres, .int .i64 xp.e, .int .i64 xp.s] 40), (fb, .cells #[.func (.func 62) #[.pointer (some ⟨jb, 0, none⟩)] #[], .func (.func 63) #[.pointer (some ⟨jb, 0, none⟩)] #[], .func (.func 64) #[.pointer (some ⟨jb, 0, none⟩)] #[], .func (.func 65) #[.pointer (some ⟨jb, 0, none⟩)] #[], .func (.func 66) #[.pointer (some ⟨jb, 0, none⟩)] #[], .func (.func 67) #[.pointer (some ⟨jb, 0, none⟩)] #[]] 79)] cw) (by kernel_rfl) (HR3.out.drew) (fun hHeld => ?_)
        refine tn 0 ?_
        try simp only [Act.put, aL1, aL2, aL3]
        refine tn 1 ?_
        try simp only [Act.put, aL1, aL2, aL3]
        refine tn 2 ?_ (hx := fun wz hSw => by have e4 := hSw.cell 1 1 rfl rfl; go_simp; try with_reducible rfl)
        try simp only [Act.put, aL1, aL2, aL3]
        refine tn 3 ?_
        try simp only [Act.put, aL1, aL2, aL3]
        refine tn 4 ?_ (hx := fun wz hSw => by have e4 := hSw.cell 2 2 rfl rfl; go_simp; try with_reducible rfl)
        try simp only [Act.put, aL1, aL2, aL3]
        refine tn 5 ?_ (hx := fun wz hSw => by refine exec_load_row 40 ?_ ?_ _ ?_ 40 _ _ _ (hSw.row 1 rfl) undBl rfl infoBl; rotate_left 1; exact rfl; exact rfl)
        try simp only [Act.put, aL1, aL2, aL3]
        refine rd1 6 (fun K hK => ?_)
        go_simp
        refine (isRange_any jb mb ar ap cr cp err room ps pubs xo 2 xc xp al lc _ (HJ3.out.below (Below.refl _ _).drew) (HL.out.below stays_RC hHeld.below) hl HKs.out HPI.out hpl).mono ?_
        rintro e w' ⟨rfl, hb⟩
        refine hK.out _ _ (hHeld.step hb) (fun hHeld => ?_)
        clear hK K
        try simp only [Act.put, aL1, aL2, aL3]
        refine tn 7 ?_
        try simp only [Act.put, aL1, aL2, aL3]
        refine rdone (NoPanic.normal ?_)
        go_wp2_with fail
        go_ret
        exact retB_mk HTk.out hHeld.below
      · clear h1 h2
        have HTk : Hid (checkB (judgeV err room ps pubs) ⟨xo, 3, xc, xp⟩ = cMouth (judgeV err room ps pubs) ⟨xo, 3, xc, xp⟩) := Lib.hid (check_is HKs.out hoff ((condB_is _ _).trans (by simp)))
        refine wp_region_noPanic ?_
        refine wp_region_held_drew (S := fun cw => RowsS w [(w.heap.size, .cells #[.string x.nm, .slice x.a1 x.n1 x.c1, .int .i64 x.k, .slice x.a3 x.n3 x.c3, .slice x.a4 x.n4 x.c4, .slice x.a5 x.n5 x.c5, .slice x.a6 x.n6 x.c6, .slice x.a7 x.n7 x.c7, .slice x.a8 x.n8 x.c8, .slice ar 3 cr, .int .i64 err] 31), ((w.heap.size + 1), .cells #[.int .i64 xo, .int .i64 3, .slice al xc.length lc, .int .i64 xp.office, .int .i64 xp.since, .int .i64 xp.till, .int .i64 xp.litres, .int .i64 xp.e, .int .i64 xp.s] 40), (fb, .cells #[.func (.func 62) #[.pointer (some ⟨jb, 0, none⟩)] #[], .func (.func 63) #[.pointer (some ⟨jb, 0, none⟩)] #[], .func (.func 64) #[.pointer (some ⟨jb, 0, none⟩)] #[], .func (.func 65) #[.pointer (some ⟨jb, 0, none⟩)] #[], .func (.func 66) #[.pointer (some ⟨jb, 0, none⟩)] #[], .func (.func 67) #[.pointer (some ⟨jb, 0, none⟩)] #[]] 79)] cw) (by kernel_rfl) (HR3.out.drew) (fun hHeld => ?_)
        refine tn 0 ?_
        try simp only [Act.put, aL1, aL2, aL3]
        refine tn 1 ?_
        try simp only [Act.put, aL1, aL2, aL3]
        refine tn 2 ?_ (hx := fun wz hSw => by have e4 := hSw.cell 1 1 rfl rfl; go_simp; try with_reducible rfl)
        try simp only [Act.put, aL1, aL2, aL3]
        refine tn 3 ?_
        try simp only [Act.put, aL1, aL2, aL3]
        refine tn 4 ?_ (hx := fun wz hSw => by have e4 := hSw.cell 2 3 rfl rfl; go_simp; try with_reducible rfl)
        try simp only [Act.put, aL1, aL2, aL3]
        refine tn 5 ?_ (hx := fun wz hSw => by refine exec_load_row 40 ?_ ?_ _ ?_ 40 _ _ _ (hSw.row 1 rfl) undBl rfl infoBl; rotate_left 1; exact rfl; exact rfl)
        try simp only [Act.put, aL1, aL2, aL3]
        refine rd1 6 (fun K hK => ?_)
        go_simp
        refine (isMouth_any jb mb ar ap cr cp err room ps pubs xo 3 xc xp al lc _ (HJ3.out.below (Below.refl _ _).drew) (HL.out.below stays_RC hHeld.below) hl HKs.out HPI.out hpl).mono ?_
        rintro e w' ⟨rfl, hb⟩
        refine hK.out _ _ (hHeld.step hb) (fun hHeld => ?_)
        clear hK K
        try simp only [Act.put, aL1, aL2, aL3]
        refine tn 7 ?_
        try simp only [Act.put, aL1, aL2, aL3]
        refine rdone (NoPanic.normal ?_)
        go_wp2_with fail
        go_ret
        exact retB_mk HTk.out hHeld.below
      · clear h1 h2
        have HTk : Hid (checkB (judgeV err room ps pubs) ⟨xo, 4, xc, xp⟩ = cMiddle (judgeV err room ps pubs) ⟨xo, 4, xc, xp⟩) := Lib.hid (check_is HKs.out hoff ((condB_is _ _).trans (by simp)))
        refine wp_region_noPanic ?_
        refine wp_region_held_drew (S := fun cw => RowsS w [(w.heap.size, .cells #[.string x.nm, .slice x.a1 x.n1 x.c1, .int .i64 x.k, .slice x.a3 x.n3 x.c3, .slice x.a4 x.n4 x.c4, .slice x.a5 x.n5 x.c5, .slice x.a6 x.n6 x.c6, .slice x.a7 x.n7 x.c7, .slice x.a8 x.n8 x.c8, .slice ar 3 cr, .int .i64 err] 31), ((w.heap.size + 1), .cells #[.int .i64 xo, .int .i64 4, .slice al xc.length lc, .int .i64 xp.office, .int .i64 xp.since, .int .i64 xp.till, .int .i64 xp.litres, .int .i64 xp.e, .int .i64 xp.s] 40), (fb, .cells #[.func (.func 62) #[.pointer (some ⟨jb, 0, none⟩)] #[], .func (.func 63) #[.pointer (some ⟨jb, 0, none⟩)] #[], .func (.func 64) #[.pointer (some ⟨jb, 0, none⟩)] #[], .func (.func 65) #[.pointer (some ⟨jb, 0, none⟩)] #[], .func (.func 66) #[.pointer (some ⟨jb, 0, none⟩)] #[], .func (.func 67) #[.pointer (some ⟨jb, 0, none⟩)] #[]] 79)] cw) (by kernel_rfl) (HR3.out.drew) (fun hHeld => ?_)
        refine tn 0 ?_
        try simp only [Act.put, aL1, aL2, aL3]
        refine tn 1 ?_
        try simp only [Act.put, aL1, aL2, aL3]
        refine tn 2 ?_ (hx := fun wz hSw => by have e4 := hSw.cell 1 1 rfl rfl; go_simp; try with_reducible rfl)
        try simp only [Act.put, aL1, aL2, aL3]
        refine tn 3 ?_
        try simp only [Act.put, aL1, aL2, aL3]
        refine tn 4 ?_ (hx := fun wz hSw => by have e4 := hSw.cell 2 4 rfl rfl; go_simp; try with_reducible rfl)
        try simp only [Act.put, aL1, aL2, aL3]
        refine tn 5 ?_ (hx := fun wz hSw => by refine exec_load_row 40 ?_ ?_ _ ?_ 40 _ _ _ (hSw.row 1 rfl) undBl rfl infoBl; rotate_left 1; exact rfl; exact rfl)
        try simp only [Act.put, aL1, aL2, aL3]
        refine rd1 6 (fun K hK => ?_)
        go_simp
        refine (isMiddle_any jb mb ar ap cr cp err room ps pubs xo 4 xc xp al lc _ (HJ3.out.below (Below.refl _ _).drew) (HL.out.below stays_RC hHeld.below) hl HKs.out HPI.out hpl).mono ?_
        rintro e w' ⟨rfl, hb⟩
        refine hK.out _ _ (hHeld.step hb) (fun hHeld => ?_)
        clear hK K
        try simp only [Act.put, aL1, aL2, aL3]
        refine tn 7 ?_
        try simp only [Act.put, aL1, aL2, aL3]
        refine rdone (NoPanic.normal ?_)
        go_wp2_with fail
        go_ret
        exact retB_mk HTk.out hHeld.below
      · clear h1 h2
        have HTk : Hid (checkB (judgeV err room ps pubs) ⟨xo, 5, xc, xp⟩ = cProm (judgeV err room ps pubs) ⟨xo, 5, xc, xp⟩) := Lib.hid (check_is HKs.out hoff ((condB_is _ _).trans (by simp)))
        refine wp_region_noPanic ?_
        refine wp_region_held_drew (S := fun cw => RowsS w [(w.heap.size, .cells #[.string x.nm, .slice x.a1 x.n1 x.c1, .int .i64 x.k, .slice x.a3 x.n3 x.c3, .slice x.a4 x.n4 x.c4, .slice x.a5 x.n5 x.c5, .slice x.a6 x.n6 x.c6, .slice x.a7 x.n7 x.c7, .slice x.a8 x.n8 x.c8, .slice ar 3 cr, .int .i64 err] 31), ((w.heap.size + 1), .cells #[.int .i64 xo, .int .i64 5, .slice al xc.length lc, .int .i64 xp.office, .int .i64 xp.since, .int .i64 xp.till, .int .i64 xp.litres, .int .i64 xp.e, .int .i64 xp.s] 40), (fb, .cells #[.func (.func 62) #[.pointer (some ⟨jb, 0, none⟩)] #[], .func (.func 63) #[.pointer (some ⟨jb, 0, none⟩)] #[], .func (.func 64) #[.pointer (some ⟨jb, 0, none⟩)] #[], .func (.func 65) #[.pointer (some ⟨jb, 0, none⟩)] #[], .func (.func 66) #[.pointer (some ⟨jb, 0, none⟩)] #[], .func (.func 67) #[.pointer (some ⟨jb, 0, none⟩)] #[]] 79)] cw) (by kernel_rfl) (HR3.out.drew) (fun hHeld => ?_)
        refine tn 0 ?_
        try simp only [Act.put, aL1, aL2, aL3]
        refine tn 1 ?_
        try simp only [Act.put, aL1, aL2, aL3]
        refine tn 2 ?_ (hx := fun wz hSw => by have e4 := hSw.cell 1 1 rfl rfl; go_simp; try with_reducible rfl)
        try simp only [Act.put, aL1, aL2, aL3]
        refine tn 3 ?_
        try simp only [Act.put, aL1, aL2, aL3]
        refine tn 4 ?_ (hx := fun wz hSw => by have e4 := hSw.cell 2 5 rfl rfl; go_simp; try with_reducible rfl)
        try simp only [Act.put, aL1, aL2, aL3]
        refine tn 5 ?_ (hx := fun wz hSw => by refine exec_load_row 40 ?_ ?_ _ ?_ 40 _ _ _ (hSw.row 1 rfl) undBl rfl infoBl; rotate_left 1; exact rfl; exact rfl)
        try simp only [Act.put, aL1, aL2, aL3]
        refine rd1 6 (fun K hK => ?_)
        go_simp
        refine (isPromise_any jb mb ar ap cr cp err room ps pubs xo 5 xc xp al lc _ (HJ3.out.below (Below.refl _ _).drew) (HL.out.below stays_RC hHeld.below) hl HKs.out HPI.out hpl hO (HGl.out.below hHeld.below HGl.out.size) (HML.out.up hHeld.below)).mono ?_
        rintro e w' ⟨rfl, hb⟩
        refine hK.out _ _ (hHeld.step hb) (fun hHeld => ?_)
        clear hK K
        try simp only [Act.put, aL1, aL2, aL3]
        refine tn 7 ?_
        try simp only [Act.put, aL1, aL2, aL3]
        refine rdone (NoPanic.normal ?_)
        go_wp2_with fail
        go_ret
        exact retB_mk HTk.out hHeld.below
end Go.Proofs.YtjbjpkhibcnenaaGreatDoor

