/- audit.Check: the conditions. -/
import Derived.Test.YtjbjpkhibcnenaaGreatDoorACheck
namespace Go.Proofs.YtjbjpkhibcnenaaGreatDoor
open Go.RowKit
set_option maxRecDepth 100000 in
set_option maxHeartbeats 8000000 in
theorem isPromise_any (jb mb : Nat) (ar ap : Option Addr) (cr cp : Nat) (err : Int) (room ps : List Int) (pubs : List PublicV) (xo xw : Int) (xc : List CV) (xp : PV) (al : Option Addr) (lc : Nat) (w : World) (hJ : JudgeAt jb mb ar ap cr cp err room ps pubs w) (hL : LArg RC 8 (.slice al xc.length lc) xc w) (hl : xc.length ≤ 1000) (hk : ∀ c ∈ xc, kB ps c = true) (_hI : ∀ p ∈ pubs, PbI p) (_hpl : pubs.length ≤ 1000) (hO : POk xp) (hg : Glob w) (hml : MLen w) :
    Calls Tryz.prog 67 #[.pointer (some ⟨jb, 0, none⟩), .agg #[.int .i64 xo, .int .i64 xw, .slice al xc.length lc, .int .i64 xp.office, .int .i64 xp.since, .int .i64 xp.till, .int .i64 xp.litres, .int .i64 xp.e, .int .i64 xp.s]] w (RetB (cProm (judgeV err room ps pubs) ⟨xo, xw, xc, xp⟩) w) := by
  have HJ := Lib.hid hJ.row
  have hjl := blk_lt hJ.row
  have HL := Lib.hid hL
  have HK := Lib.hid hk
  by_cases hlen : xc.length = 2
  · obtain ⟨c, d, rfl⟩ : ∃ c d, xc = [c, d] := by
      rcases xc with _ | ⟨c1, _ | ⟨c2, _ | ⟨c3, _ | ⟨c4, _ | ⟨c5, t⟩⟩⟩⟩⟩ <;> first | (simp at hlen; done) | exact ⟨_, rfl⟩ | exact ⟨_, _, rfl⟩ | exact ⟨_, _, _, rfl⟩ | exact ⟨_, _, _, _, rfl⟩ | (simp at hlen; omega)
    obtain ⟨b, o, cs0, rfl, hbl, -, hr0, hc0, -⟩ := HL.out.at (j := 0) rfl
    unfold cellsC at hc0
    subst hc0
    have HC0 : Hid (w.rangeAt b o [.int .i64 c.office, .int .i64 c.hour, .int .i64 c.inn, .int .i64 c.out, .int .i64 c.store, .string c.prev, .int .i64 c.e, .int .i64 c.s]) := Lib.hid (by rw [Nat.zero_mul, Nat.add_zero] at hr0; exact hr0)
    obtain ⟨b', o', cs1, he1, -, -, hr1, hc1, -⟩ := HL.out.at (j := 1) rfl
    unfold cellsC at hc1
    subst hc1
    simp only [Option.some.injEq, Addr.mk.injEq, and_true] at he1
    obtain ⟨rfl, rfl⟩ := he1
    have HC1 : Hid (w.rangeAt b (o + 8) [.int .i64 d.office, .int .i64 d.hour, .int .i64 d.inn, .int .i64 d.out, .int .i64 d.store, .string d.prev, .int .i64 d.e, .int .i64 d.s]) := Lib.hid (by exact hr1)
    clear hr0 hr1
    obtain ⟨hnc, hoc, hhc, hic⟩ := kB_num (HK.out c (by simp))
    obtain ⟨hnd, hod, hhd, hid⟩ := kB_num (HK.out d (by simp))
    clear hL hk hlen
    dsimp only [List.length_cons, List.length_nil, Nat.zero_add, Nat.reduceAdd] at *
    have HR := Lib.hid ((RowsS.nil w).alloc (.cells #[.int .i64 xo, .int .i64 xw, .slice (some ⟨b, o, none⟩) 2 lc, .int .i64 xp.office, .int .i64 xp.since, .int .i64 xp.till, .int .i64 xp.litres, .int .i64 xp.e, .int .i64 xp.s] 40))
    go_enter Tryz.func67, Tryz.ntmps67
    go_upto_region 1 with fail
    generalize w.alloc (.cells #[.int .i64 xo, .int .i64 xw, .slice (some ⟨b, o, none⟩) 2 lc, .int .i64 xp.office, .int .i64 xp.since, .int .i64 xp.till, .int .i64 xp.litres, .int .i64 xp.e, .int .i64 xp.s] 40) = w0 at *
    refine wp_region_noPanic ?_
    refine wp_region_held_drew (S := fun cw => RowsS w [(w.heap.size, .cells #[.int .i64 xo, .int .i64 xw, .slice (some ⟨b, o, none⟩) 2 lc, .int .i64 xp.office, .int .i64 xp.since, .int .i64 xp.till, .int .i64 xp.litres, .int .i64 xp.e, .int .i64 xp.s] 40)] cw) (by kernel_rfl) (HR.out.drew) (fun hHeld => ?_)
    refine tn 0 ?_
    try simp only [Act.put, aL1, aL2, aL3]
    refine tn 1 ?_ (hx := fun wz hSw => by have e4 := hSw.cell 0 2 rfl rfl; go_simp; try with_reducible rfl)
    try simp only [Act.put, aL1, aL2, aL3]
    refine tn 2 ?_
    try simp only [Act.put, aL1, aL2, aL3]
    refine tn 3 ?_ (hx := fun wz hSw => by have e4 := hSw.cell 0 0 rfl rfl; go_simp; try with_reducible rfl)
    try simp only [Act.put, aL1, aL2, aL3]
    cases hal : allB [c, d] xo with
    | true =>
      have HAL : Hid (allB [c, d] xo = true) := Lib.hid hal
      have HAv : Hid ((decide (([c, d] : List CV).length = 2) && allB [c, d] xo) = true) := Lib.hid (by rw [hal]; rfl)
      clear hal
      have HAll : Hid (∀ w0, Below w.heap.size w w0 → Calls Tryz.prog 92 #[.slice (some ⟨b, o, none⟩) 2 lc, .int .i64 2, .int .i64 xo] w0 fun e w' => e = .returned (.bool true) ∧ Below w0.heap.size w0 w') := Lib.hid (fun w0 hb => by have h := all_any [c, d] _ 2 xo w0 (HL.out.below stays_RC hb) (by simp) (by decide); rw [HAv.out] at h; exact h)
      refine rd1 4 (fun K hK => ?_)
      go_simp
      refine (HAll.out _ hHeld.below).mono ?_
      rintro e w' ⟨rfl, hb⟩
      refine hK.out _ _ (hHeld.step hb) (fun hHeld => ?_)
      clear hK K
      try simp only [Act.put, aL1, aL2, aL3]
      refine tn 5 ?_
      try simp only [Act.put, aL1, aL2, aL3]
      refine tn 6 ?_
      try simp only [Act.put, aL1, aL2, aL3]
      refine tn 7 ?_
      try simp only [Act.put, aL1, aL2, aL3]
      refine tn 8 ?_ (hx := fun wz hSw => by have e4 := hSw.cell 0 3 rfl rfl; go_simp; try with_reducible rfl)
      try simp only [Act.put, aL1, aL2, aL3]
      refine tn 9 ?_
      try simp only [Act.put, aL1, aL2, aL3]
      refine tn 10 ?_ (hx := fun wz hSw => by have e4 := hSw.cell 0 0 rfl rfl; go_simp; try with_reducible rfl)
      try simp only [Act.put, aL1, aL2, aL3]
      by_cases h1 : xp.office = xo
      · have q1a : (xp.office == xo) = true := by rw [beq_iff_eq]; exact h1
        have q1b : decide (xp.office = xo) = true := decide_eq_true h1
        have H1 := Lib.hid h1
        clear h1
        refine tn 11 ?_
        try simp only [Act.put, aL1, aL2, aL3]
        refine tn 12 ?_
        try simp only [Act.put, aL1, aL2, aL3]
        refine tn 13 ?_
        try simp only [Act.put, aL1, aL2, aL3]
        refine tn 14 ?_
        try simp only [Act.put, aL1, aL2, aL3]
        refine tn 15 ?_
        try simp only [Act.put, aL1, aL2, aL3]
        refine tn 16 ?_ (hx := fun wz hSw => by refine exec_load_range 38 _ rfl _ _ ?_ _ _ (rangeN (hSw.row 0 rfl) 3 [.int .i64 xp.office, .int .i64 xp.since, .int .i64 xp.till, .int .i64 xp.litres, .int .i64 xp.e, .int .i64 xp.s] rfl) undPm rfl infoPm; exact rfl)
        try simp only [Act.put, aL1, aL2, aL3]
        cases hpv : vB ps xp with
        | true =>
          have HPv := Lib.hid hpv
          have HPr : Hid (∀ w0, Below w.heap.size w w0 → Calls Tryz.prog 50 #[.pointer (some ⟨jb, 0, none⟩), .agg #[.int .i64 xp.office, .int .i64 xp.since, .int .i64 xp.till, .int .i64 xp.litres, .int .i64 xp.e, .int .i64 xp.s]] w0 fun e w' => e = .returned (.bool true) ∧ Below w0.heap.size w0 w') := Lib.hid (fun w0 hb => by have h := promised_any jb mb ar ap cr cp err room ps pubs xp w0 (hJ.below hb) hO (hg.below hb hg.size) (hml.up hb); rw [hpv] at h; exact h)
          have hpn := (vB_num hpv).1
          clear hpv
          refine rd1 17 (fun K hK => ?_)
          go_simp
          refine (HPr.out _ hHeld.below).mono ?_
          rintro e w' ⟨rfl, hb⟩
          refine hK.out _ _ (hHeld.step hb) (fun hHeld => ?_)
          clear hK K
          try simp only [Act.put, aL1, aL2, aL3]
          refine tn 18 ?_
          try simp only [Act.put, aL1, aL2, aL3]
          refine tn 19 ?_
          try simp only [Act.put, aL1, aL2, aL3]
          refine tn 20 ?_
          try simp only [Act.put, aL1, aL2, aL3]
          refine tn 21 ?_
          try simp only [Act.put, aL1, aL2, aL3]
          refine tn 22 ?_ (hx := fun wz hSw => by have e4 := hSw.cell 0 2 rfl rfl; go_simp; try with_reducible rfl)
          try simp only [Act.put, aL1, aL2, aL3]
          refine tn 23 ?_
          try simp only [Act.put, aL1, aL2, aL3]
          refine tn 24 ?_ (hx := fun wz hSw => by refine exec_load_range 63 _ rfl _ _ ?_ _ _ (rangeAt_below HC0.out hSw.below hbl) undCm rfl infoCm; exact rfl)
          try simp only [Act.put, aL1, aL2, aL3]
          refine tn 25 ?_
          try simp only [Act.put, aL1, aL2, aL3]
          refine tn 26 ?_ (hx := fun wz hSw => by have e4 := hSw.cell 0 2 rfl rfl; go_simp; try with_reducible rfl)
          try simp only [Act.put, aL1, aL2, aL3]
          refine tn 27 ?_
          try simp only [Act.put, aL1, aL2, aL3]
          refine tn 28 ?_ (hx := fun wz hSw => by refine exec_load_range 63 _ rfl _ _ ?_ _ _ (rangeAt_below HC1.out hSw.below hbl) undCm rfl infoCm; exact rfl)
          try simp only [Act.put, aL1, aL2, aL3]
          refine tn 29 ?_
          try simp only [Act.put, aL1, aL2, aL3]
          refine tn 30 ?_ (hx := fun wz hSw => by refine exec_load_range 38 _ rfl _ _ ?_ _ _ (rangeN (hSw.row 0 rfl) 3 [.int .i64 xp.office, .int .i64 xp.since, .int .i64 xp.till, .int .i64 xp.litres, .int .i64 xp.e, .int .i64 xp.s] rfl) undPm rfl infoPm; exact rfl)
          try simp only [Act.put, aL1, aL2, aL3]
          cases hbv : brkB (judgeV err room ps pubs) xp c d with
          | true =>
            have HBv := Lib.hid hbv
            have HBr : Hid (∀ w0, Below w.heap.size w w0 → Calls Tryz.prog 60 #[.pointer (some ⟨jb, 0, none⟩), .agg #[.int .i64 c.office, .int .i64 c.hour, .int .i64 c.inn, .int .i64 c.out, .int .i64 c.store, .string c.prev, .int .i64 c.e, .int .i64 c.s], .agg #[.int .i64 d.office, .int .i64 d.hour, .int .i64 d.inn, .int .i64 d.out, .int .i64 d.store, .string d.prev, .int .i64 d.e, .int .i64 d.s], .agg #[.int .i64 xp.office, .int .i64 xp.since, .int .i64 xp.till, .int .i64 xp.litres, .int .i64 xp.e, .int .i64 xp.s]] w0 fun e w' => e = .returned (.bool true) ∧ Below w0.heap.size w0 w') := Lib.hid (fun w0 hb => by have h := breaks_any jb mb ar ap cr cp err room ps pubs (hoursF pubs) (kB ps) (vB ps) c d xp w0 (hJ.below hb) hnc hnd hpn; rw [show brkB ⟨err, room, hoursF pubs, kB ps, vB ps⟩ xp c d = true from hbv] at h; exact h)
            clear hbv
            refine rd1 31 (fun K hK => ?_)
            go_simp
            refine (HBr.out _ hHeld.below).mono ?_
            rintro e w' ⟨rfl, hb⟩
            refine hK.out _ _ (hHeld.step hb) (fun hHeld => ?_)
            clear hK K
            try simp only [Act.put, aL1, aL2, aL3]
            refine tn 32 ?_
            try simp only [Act.put, aL1, aL2, aL3]
            refine tn 33 ?_
            try simp only [Act.put, aL1, aL2, aL3]
            refine rdone (NoPanic.normal ?_)
            have HT : Hid (cProm (judgeV err room ps pubs) ⟨xo, xw, [c, d], xp⟩ = true) := Lib.hid (by show (allB [c, d] xo && decide (xp.office = xo) && vB ps xp && brkB (judgeV err room ps pubs) xp c d) = true; rw [HAL.out]; (try have h1 := H1.out); (try rw [HPv.out]); (try rw [HBv.out]); simp [*])
            go_wp2_with fail
            go_ret
            exact retB_mk HT.out hHeld.below
          | false =>
            have HBv := Lib.hid hbv
            have HBr : Hid (∀ w0, Below w.heap.size w w0 → Calls Tryz.prog 60 #[.pointer (some ⟨jb, 0, none⟩), .agg #[.int .i64 c.office, .int .i64 c.hour, .int .i64 c.inn, .int .i64 c.out, .int .i64 c.store, .string c.prev, .int .i64 c.e, .int .i64 c.s], .agg #[.int .i64 d.office, .int .i64 d.hour, .int .i64 d.inn, .int .i64 d.out, .int .i64 d.store, .string d.prev, .int .i64 d.e, .int .i64 d.s], .agg #[.int .i64 xp.office, .int .i64 xp.since, .int .i64 xp.till, .int .i64 xp.litres, .int .i64 xp.e, .int .i64 xp.s]] w0 fun e w' => e = .returned (.bool false) ∧ Below w0.heap.size w0 w') := Lib.hid (fun w0 hb => by have h := breaks_any jb mb ar ap cr cp err room ps pubs (hoursF pubs) (kB ps) (vB ps) c d xp w0 (hJ.below hb) hnc hnd hpn; rw [show brkB ⟨err, room, hoursF pubs, kB ps, vB ps⟩ xp c d = false from hbv] at h; exact h)
            clear hbv
            refine rd1 31 (fun K hK => ?_)
            go_simp
            refine (HBr.out _ hHeld.below).mono ?_
            rintro e w' ⟨rfl, hb⟩
            refine hK.out _ _ (hHeld.step hb) (fun hHeld => ?_)
            clear hK K
            try simp only [Act.put, aL1, aL2, aL3]
            refine tn 32 ?_
            try simp only [Act.put, aL1, aL2, aL3]
            refine tn 33 ?_
            try simp only [Act.put, aL1, aL2, aL3]
            refine rdone (NoPanic.normal ?_)
            have HT : Hid (cProm (judgeV err room ps pubs) ⟨xo, xw, [c, d], xp⟩ = false) := Lib.hid (by show (allB [c, d] xo && decide (xp.office = xo) && vB ps xp && brkB (judgeV err room ps pubs) xp c d) = false; rw [HAL.out]; (try have h1 := H1.out); (try rw [HPv.out]); (try rw [HBv.out]); simp [*])
            go_wp2_with fail
            go_ret
            exact retB_mk HT.out hHeld.below
        | false =>
          have HPv := Lib.hid hpv
          have HPr : Hid (∀ w0, Below w.heap.size w w0 → Calls Tryz.prog 50 #[.pointer (some ⟨jb, 0, none⟩), .agg #[.int .i64 xp.office, .int .i64 xp.since, .int .i64 xp.till, .int .i64 xp.litres, .int .i64 xp.e, .int .i64 xp.s]] w0 fun e w' => e = .returned (.bool false) ∧ Below w0.heap.size w0 w') := Lib.hid (fun w0 hb => by have h := promised_any jb mb ar ap cr cp err room ps pubs xp w0 (hJ.below hb) hO (hg.below hb hg.size) (hml.up hb); rw [hpv] at h; exact h)
          clear hpv
          refine rd1 17 (fun K hK => ?_)
          go_simp
          refine (HPr.out _ hHeld.below).mono ?_
          rintro e w' ⟨rfl, hb⟩
          refine hK.out _ _ (hHeld.step hb) (fun hHeld => ?_)
          clear hK K
          try simp only [Act.put, aL1, aL2, aL3]
          refine tn 18 ?_
          try simp only [Act.put, aL1, aL2, aL3]
          refine tn 19 ?_
          try simp only [Act.put, aL1, aL2, aL3]
          refine skn 2 [(20, some 25), (21, some 26), (22, some 27), (23, some 28), (24, some 29), (25, some 30), (26, some 31), (27, some 32), (28, some 33), (29, some 34), (30, some 35), (31, some 36)] ?_
          simp only [List.foldl_cons, List.foldl_nil, Act.put, aL1, aL2, aL3]
          refine tn 32 ?_
          try simp only [Act.put, aL1, aL2, aL3]
          refine tn 33 ?_
          try simp only [Act.put, aL1, aL2, aL3]
          refine rdone (NoPanic.normal ?_)
          have HT : Hid (cProm (judgeV err room ps pubs) ⟨xo, xw, [c, d], xp⟩ = false) := Lib.hid (by show (allB [c, d] xo && decide (xp.office = xo) && vB ps xp && brkB (judgeV err room ps pubs) xp c d) = false; rw [HAL.out]; (try have h1 := H1.out); (try rw [HPv.out]); (try rw [HBv.out]); simp [*])
          go_wp2_with fail
          go_ret
          exact retB_mk HT.out hHeld.below
      · have q1a : (xp.office == xo) = false := by rw [beq_eq_false_iff_ne]; exact h1
        have q1b : decide (xp.office = xo) = false := decide_eq_false h1
        have H1 := Lib.hid h1
        clear h1
        refine tn 11 ?_
        try simp only [Act.put, aL1, aL2, aL3]
        refine tn 12 ?_
        try simp only [Act.put, aL1, aL2, aL3]
        refine tn 13 ?_
        try simp only [Act.put, aL1, aL2, aL3]
        refine skn 16 [(14, some 19), (15, some 20), (16, some 21), (17, some 22)] ?_
        simp only [List.foldl_cons, List.foldl_nil, Act.put, aL1, aL2, aL3]
        refine tn 18 ?_
        try simp only [Act.put, aL1, aL2, aL3]
        refine tn 19 ?_
        try simp only [Act.put, aL1, aL2, aL3]
        refine skn 2 [(20, some 25), (21, some 26), (22, some 27), (23, some 28), (24, some 29), (25, some 30), (26, some 31), (27, some 32), (28, some 33), (29, some 34), (30, some 35), (31, some 36)] ?_
        simp only [List.foldl_cons, List.foldl_nil, Act.put, aL1, aL2, aL3]
        refine tn 32 ?_
        try simp only [Act.put, aL1, aL2, aL3]
        refine tn 33 ?_
        try simp only [Act.put, aL1, aL2, aL3]
        refine rdone (NoPanic.normal ?_)
        have HT : Hid (cProm (judgeV err room ps pubs) ⟨xo, xw, [c, d], xp⟩ = false) := Lib.hid (by show (allB [c, d] xo && decide (xp.office = xo) && vB ps xp && brkB (judgeV err room ps pubs) xp c d) = false; rw [HAL.out]; (try have h1 := H1.out); (try rw [HPv.out]); (try rw [HBv.out]); simp [*])
        go_wp2_with fail
        go_ret
        exact retB_mk HT.out hHeld.below
    | false =>
      have HAL : Hid (allB [c, d] xo = false) := Lib.hid hal
      have HAv : Hid ((decide (([c, d] : List CV).length = 2) && allB [c, d] xo) = false) := Lib.hid (by rw [hal]; rfl)
      clear hal
      have HAll : Hid (∀ w0, Below w.heap.size w w0 → Calls Tryz.prog 92 #[.slice (some ⟨b, o, none⟩) 2 lc, .int .i64 2, .int .i64 xo] w0 fun e w' => e = .returned (.bool false) ∧ Below w0.heap.size w0 w') := Lib.hid (fun w0 hb => by have h := all_any [c, d] _ 2 xo w0 (HL.out.below stays_RC hb) (by simp) (by decide); rw [HAv.out] at h; exact h)
      refine rd1 4 (fun K hK => ?_)
      go_simp
      refine (HAll.out _ hHeld.below).mono ?_
      rintro e w' ⟨rfl, hb⟩
      refine hK.out _ _ (hHeld.step hb) (fun hHeld => ?_)
      clear hK K
      try simp only [Act.put, aL1, aL2, aL3]
      refine tn 5 ?_
      try simp only [Act.put, aL1, aL2, aL3]
      refine skn 22 [(6, some 11), (7, some 12), (8, some 13), (9, some 14), (10, some 15), (11, some 16)] ?_
      simp only [List.foldl_cons, List.foldl_nil, Act.put, aL1, aL2, aL3]
      refine tn 12 ?_
      try simp only [Act.put, aL1, aL2, aL3]
      refine tn 13 ?_
      try simp only [Act.put, aL1, aL2, aL3]
      refine skn 16 [(14, some 19), (15, some 20), (16, some 21), (17, some 22)] ?_
      simp only [List.foldl_cons, List.foldl_nil, Act.put, aL1, aL2, aL3]
      refine tn 18 ?_
      try simp only [Act.put, aL1, aL2, aL3]
      refine tn 19 ?_
      try simp only [Act.put, aL1, aL2, aL3]
      refine skn 2 [(20, some 25), (21, some 26), (22, some 27), (23, some 28), (24, some 29), (25, some 30), (26, some 31), (27, some 32), (28, some 33), (29, some 34), (30, some 35), (31, some 36)] ?_
      simp only [List.foldl_cons, List.foldl_nil, Act.put, aL1, aL2, aL3]
      refine tn 32 ?_
      try simp only [Act.put, aL1, aL2, aL3]
      refine tn 33 ?_
      try simp only [Act.put, aL1, aL2, aL3]
      refine rdone (NoPanic.normal ?_)
      have HT : Hid (cProm (judgeV err room ps pubs) ⟨xo, xw, [c, d], xp⟩ = false) := Lib.hid (by show (allB [c, d] xo && decide (xp.office = xo) && vB ps xp && brkB (judgeV err room ps pubs) xp c d) = false; rw [HAL.out]; (try have h1 := H1.out); (try rw [HPv.out]); (try rw [HBv.out]); simp [*])
      go_wp2_with fail
      go_ret
      exact retB_mk HT.out hHeld.below
  · have HT : Hid (cProm (judgeV err room ps pubs) ⟨xo, xw, xc, xp⟩ = false) := Lib.hid (by
      rcases xc with _ | ⟨c1, _ | ⟨c2, _ | ⟨c3, _ | ⟨c4, _ | ⟨c5, t⟩⟩⟩⟩⟩ <;> first | (simp at hlen; done) | (unfold cProm; simp; done) | (unfold cProm; rfl))
    have HAv : Hid ((decide (xc.length = 2) && allB xc xo) = false) := Lib.hid (by rw [decide_eq_false hlen]; rfl)
    have HAll : Hid (∀ w0, Below w.heap.size w w0 → Calls Tryz.prog 92 #[.slice al xc.length lc, .int .i64 2, .int .i64 xo] w0 fun e w' => e = .returned (.bool false) ∧ Below w0.heap.size w0 w') := Lib.hid (fun w0 hb => by have h := all_any xc _ 2 xo w0 (HL.out.below stays_RC hb) hl (by decide); rw [HAv.out] at h; exact h)
    clear hL hk hlen
    have HR := Lib.hid ((RowsS.nil w).alloc (.cells #[.int .i64 xo, .int .i64 xw, .slice al xc.length lc, .int .i64 xp.office, .int .i64 xp.since, .int .i64 xp.till, .int .i64 xp.litres, .int .i64 xp.e, .int .i64 xp.s] 40))
    go_enter Tryz.func67, Tryz.ntmps67
    go_upto_region 1 with fail
    generalize w.alloc (.cells #[.int .i64 xo, .int .i64 xw, .slice al xc.length lc, .int .i64 xp.office, .int .i64 xp.since, .int .i64 xp.till, .int .i64 xp.litres, .int .i64 xp.e, .int .i64 xp.s] 40) = w0 at *
    refine wp_region_noPanic ?_
    refine wp_region_held_drew (S := fun cw => RowsS w [(w.heap.size, .cells #[.int .i64 xo, .int .i64 xw, .slice al xc.length lc, .int .i64 xp.office, .int .i64 xp.since, .int .i64 xp.till, .int .i64 xp.litres, .int .i64 xp.e, .int .i64 xp.s] 40)] cw) (by kernel_rfl) (HR.out.drew) (fun hHeld => ?_)
    refine tn 0 ?_
    try simp only [Act.put, aL1, aL2, aL3]
    refine tn 1 ?_ (hx := fun wz hSw => by have e4 := hSw.cell 0 2 rfl rfl; go_simp; try with_reducible rfl)
    try simp only [Act.put, aL1, aL2, aL3]
    refine tn 2 ?_
    try simp only [Act.put, aL1, aL2, aL3]
    refine tn 3 ?_ (hx := fun wz hSw => by have e4 := hSw.cell 0 0 rfl rfl; go_simp; try with_reducible rfl)
    try simp only [Act.put, aL1, aL2, aL3]
    refine rd1 4 (fun K hK => ?_)
    go_simp
    refine (HAll.out _ hHeld.below).mono ?_
    rintro e w' ⟨rfl, hb⟩
    refine hK.out _ _ (hHeld.step hb) (fun hHeld => ?_)
    clear hK K
    try simp only [Act.put, aL1, aL2, aL3]
    refine tn 5 ?_
    try simp only [Act.put, aL1, aL2, aL3]
    refine skn 22 [(6, some 11), (7, some 12), (8, some 13), (9, some 14), (10, some 15), (11, some 16)] ?_
    simp only [List.foldl_cons, List.foldl_nil, Act.put, aL1, aL2, aL3]
    refine tn 12 ?_
    try simp only [Act.put, aL1, aL2, aL3]
    refine tn 13 ?_
    try simp only [Act.put, aL1, aL2, aL3]
    refine skn 16 [(14, some 19), (15, some 20), (16, some 21), (17, some 22)] ?_
    simp only [List.foldl_cons, List.foldl_nil, Act.put, aL1, aL2, aL3]
    refine tn 18 ?_
    try simp only [Act.put, aL1, aL2, aL3]
    refine tn 19 ?_
    try simp only [Act.put, aL1, aL2, aL3]
    refine skn 2 [(20, some 25), (21, some 26), (22, some 27), (23, some 28), (24, some 29), (25, some 30), (26, some 31), (27, some 32), (28, some 33), (29, some 34), (30, some 35), (31, some 36)] ?_
    simp only [List.foldl_cons, List.foldl_nil, Act.put, aL1, aL2, aL3]
    refine tn 32 ?_
    try simp only [Act.put, aL1, aL2, aL3]
    refine tn 33 ?_
    try simp only [Act.put, aL1, aL2, aL3]
    refine rdone (NoPanic.normal ?_)
    go_wp2_with fail
    go_ret
    exact retB_mk HT.out hHeld.below
end Go.Proofs.YtjbjpkhibcnenaaGreatDoor

