/- audit.Check: the conditions. -/
import Derived.Test.YtjbjpkhibcnenaaGreatDoorAJudgeD
import Derived.Test.YtjbjpkhibcnenaaGreatDoorAJudgeB
import Derived.Test.YtjbjpkhibcnenaaGreatDoorCEq
namespace Go.Proofs.YtjbjpkhibcnenaaGreatDoor
open Go.RowKit
def judgeV (err : Int) (room ps : List Int) (pubs : List PublicV) : JV := ⟨err, room, hoursF pubs, kB ps, vB ps⟩
def cFork (x : BlV) : Bool := match x.claims with | [c, d] => allB [c, d] x.office && forkB c d | _ => false
def cBal (J : JV) (x : BlV) : Bool := match x.claims with | [c, d] => allB [c, d] x.office && balB J x.office c d | _ => false
def cRange (J : JV) (x : BlV) : Bool := match x.claims with | [c] => allB [c] x.office && rangeB J c | _ => false
def cMouth (J : JV) (x : BlV) : Bool := decide (x.office = 2) && (match x.claims with | [c, d] => allB [c, d] 2 && mouB J c d | _ => false)
def cMiddle (J : JV) (x : BlV) : Bool := decide (x.office = 1) && (match x.claims with | [a, b, c, d] => allB [a] 0 && allB [b, c] 1 && allB [d] 2 && disB J a b && disB J c d | _ => false)
def cProm (J : JV) (x : BlV) : Bool := match x.claims with | [c, d] => allB [c, d] x.office && decide (x.prom.office = x.office) && J.V x.prom && brkB J x.prom c d | _ => false
theorem condB_is (J : JV) (x : BlV) : condB J x = if x.why = 0 then cFork x else if x.why = 1 then cBal J x else if x.why = 2 then cRange J x else if x.why = 3 then cMouth J x else if x.why = 4 then cMiddle J x else if x.why = 5 then cProm J x else false := rfl
theorem cvExt {c d : CV} (h1 : c.office = d.office) (h2 : c.hour = d.hour) (h3 : c.inn = d.inn) (h4 : c.out = d.out) (h5 : c.store = d.store) (h6 : c.prev.toList = d.prev.toList) (h7 : c.e = d.e) (h8 : c.s = d.s) : c = d := by
  have h9 := str_eqC h6
  cases c; cases d
  simp only at h1 h2 h3 h4 h5 h7 h8 h9
  rw [h1, h2, h3, h4, h5, h7, h8, h9]
theorem undCs : Tryz.prog.underlying 33 = some (.slice 63) := by kernel_rfl
theorem elemCs : Tryz.prog.elem 33 = 63 := by kernel_rfl
theorem sizeCs (W : World) : (sizeOf 63).run Tryz.prog W = .ok 8 W := by kernel_rfl
set_option maxRecDepth 100000 in
set_option maxHeartbeats 8000000 in
theorem isFork_any (jb mb : Nat) (ar ap : Option Addr) (cr cp : Nat) (err : Int) (room ps : List Int) (pubs : List PublicV) (xo xw : Int) (xc : List CV) (xp : PV) (al : Option Addr) (lc : Nat) (w : World) (hJ : JudgeAt jb mb ar ap cr cp err room ps pubs w) (hL : LArg RC 8 (.slice al xc.length lc) xc w) (hl : xc.length ≤ 1000) (hk : ∀ c ∈ xc, kB ps c = true) (_hI : ∀ p ∈ pubs, PbI p) (_hpl : pubs.length ≤ 1000) :
    Calls Tryz.prog 62 #[.pointer (some ⟨jb, 0, none⟩), .agg #[.int .i64 xo, .int .i64 xw, .slice al xc.length lc, .int .i64 xp.office, .int .i64 xp.since, .int .i64 xp.till, .int .i64 xp.litres, .int .i64 xp.e, .int .i64 xp.s]] w (RetB (cFork ⟨xo, xw, xc, xp⟩) w) := by
  have HJ := Lib.hid hJ.row
  have hjl := blk_lt hJ.row
  have HL := Lib.hid hL
  have HK := Lib.hid hk
  by_cases hlen : xc.length = 2
  · obtain ⟨c, d, rfl⟩ : ∃ c d, xc = [c, d] := by
      rcases xc with _ | ⟨c1, _ | ⟨c2, _ | ⟨c3, _ | ⟨c4, _ | ⟨c5, t⟩⟩⟩⟩⟩ <;> first | (simp at hlen; done) | exact ⟨_, rfl⟩ | exact ⟨_, _, rfl⟩ | exact ⟨_, _, _, rfl⟩ | exact ⟨_, _, _, _, rfl⟩ | (simp at hlen; omega)
    obtain ⟨b, o, cs0, rfl, hbl, -, hr0, hc0, -⟩ := HL.out.at (j := 0) rfl
    unfold cellsC at hc0
    subst hc0
    have HC0 : Hid (w.rangeAt b o [.int .i64 c.office, .int .i64 c.hour, .int .i64 c.inn, .int .i64 c.out, .int .i64 c.store, .string c.prev, .int .i64 c.e, .int .i64 c.s]) := Lib.hid (by rw [Nat.zero_mul, Nat.add_zero] at hr0; exact hr0)
    obtain ⟨b', o', cs1, he1, -, -, hr1, hc1, -⟩ := HL.out.at (j := 1) rfl
    unfold cellsC at hc1
    subst hc1
    simp only [Option.some.injEq, Addr.mk.injEq, and_true] at he1
    obtain ⟨rfl, rfl⟩ := he1
    have HC1 : Hid (w.rangeAt b (o + 8) [.int .i64 d.office, .int .i64 d.hour, .int .i64 d.inn, .int .i64 d.out, .int .i64 d.store, .string d.prev, .int .i64 d.e, .int .i64 d.s]) := Lib.hid (by exact hr1)
    clear hr0 hr1
    obtain ⟨hnc, hoc, hhc, hic⟩ := kB_num (HK.out c (by simp))
    obtain ⟨hnd, hod, hhd, hid⟩ := kB_num (HK.out d (by simp))
    clear hL hk hlen
    dsimp only [List.length_cons, List.length_nil, Nat.zero_add, Nat.reduceAdd] at *
    have HR := Lib.hid ((RowsS.nil w).alloc (.cells #[.int .i64 xo, .int .i64 xw, .slice (some ⟨b, o, none⟩) 2 lc, .int .i64 xp.office, .int .i64 xp.since, .int .i64 xp.till, .int .i64 xp.litres, .int .i64 xp.e, .int .i64 xp.s] 40))
    go_enter Tryz.func62, Tryz.ntmps62
    go_upto_region 1 with fail
    generalize w.alloc (.cells #[.int .i64 xo, .int .i64 xw, .slice (some ⟨b, o, none⟩) 2 lc, .int .i64 xp.office, .int .i64 xp.since, .int .i64 xp.till, .int .i64 xp.litres, .int .i64 xp.e, .int .i64 xp.s] 40) = w0 at *
    refine wp_region_noPanic ?_
    refine wp_region_held_drew (S := fun cw => RowsS w [(w.heap.size, .cells #[.int .i64 xo, .int .i64 xw, .slice (some ⟨b, o, none⟩) 2 lc, .int .i64 xp.office, .int .i64 xp.since, .int .i64 xp.till, .int .i64 xp.litres, .int .i64 xp.e, .int .i64 xp.s] 40)] cw) (by kernel_rfl) (HR.out.drew) (fun hHeld => ?_)
    refine tn 0 ?_
    try simp only [Act.put, aL1, aL2, aL3]
    refine tn 1 ?_ (hx := fun wz hSw => by have e4 := hSw.cell 0 2 rfl rfl; go_simp; try with_reducible rfl)
    try simp only [Act.put, aL1, aL2, aL3]
    refine tn 2 ?_
    try simp only [Act.put, aL1, aL2, aL3]
    refine tn 3 ?_ (hx := fun wz hSw => by have e4 := hSw.cell 0 0 rfl rfl; go_simp; try with_reducible rfl)
    try simp only [Act.put, aL1, aL2, aL3]
    cases hal : allB [c, d] xo with
    | true =>
      have HAL : Hid (allB [c, d] xo = true) := Lib.hid hal
      have HAv : Hid ((decide (([c, d] : List CV).length = 2) && allB [c, d] xo) = true) := Lib.hid (by rw [hal]; rfl)
      clear hal
      have HAll : Hid (∀ w0, Below w.heap.size w w0 → Calls Tryz.prog 92 #[.slice (some ⟨b, o, none⟩) 2 lc, .int .i64 2, .int .i64 xo] w0 fun e w' => e = .returned (.bool true) ∧ Below w0.heap.size w0 w') := Lib.hid (fun w0 hb => by have h := all_any [c, d] _ 2 xo w0 (HL.out.below stays_RC hb) (by simp) (by decide); rw [HAv.out] at h; exact h)
      refine rd1 4 (fun K hK => ?_)
      go_simp
      refine (HAll.out _ hHeld.below).mono ?_
      rintro e w' ⟨rfl, hb⟩
      refine hK.out _ _ (hHeld.step hb) (fun hHeld => ?_)
      clear hK K
      try simp only [Act.put, aL1, aL2, aL3]
      refine tn 5 ?_
      try simp only [Act.put, aL1, aL2, aL3]
      refine tn 6 ?_
      try simp only [Act.put, aL1, aL2, aL3]
      refine tn 7 ?_ (hx := fun wz hSw => by have e4 := hSw.cell 0 2 rfl rfl; go_simp; try with_reducible rfl)
      try simp only [Act.put, aL1, aL2, aL3]
      refine tn 8 ?_
      try simp only [Act.put, aL1, aL2, aL3]
      refine tn 9 ?_
      try simp only [Act.put, aL1, aL2, aL3]
      refine tn 10 ?_ (hx := fun wz hSw => by have e4 := (rangeAt_below HC0.out hSw.below hbl) 1 (.int .i64 c.hour) rfl; go_simp; try with_reducible rfl)
      try simp only [Act.put, aL1, aL2, aL3]
      refine tn 11 ?_
      try simp only [Act.put, aL1, aL2, aL3]
      refine tn 12 ?_ (hx := fun wz hSw => by have e4 := hSw.cell 0 2 rfl rfl; go_simp; try with_reducible rfl)
      try simp only [Act.put, aL1, aL2, aL3]
      refine tn 13 ?_
      try simp only [Act.put, aL1, aL2, aL3]
      refine tn 14 ?_
      try simp only [Act.put, aL1, aL2, aL3]
      refine tn 15 ?_ (hx := fun wz hSw => by have e4 := (rangeAt_below HC1.out hSw.below hbl) 1 (.int .i64 d.hour) rfl; go_simp; try with_reducible rfl)
      try simp only [Act.put, aL1, aL2, aL3]
      by_cases h1 : c.hour = d.hour
      · have q1a : (c.hour == d.hour) = true := by rw [beq_iff_eq]; exact h1
        have q1b : decide (c.hour = d.hour) = true := decide_eq_true h1
        have H1 := Lib.hid h1
        clear h1
        refine tn 16 ?_
        try simp only [Act.put, aL1, aL2, aL3]
        refine tn 17 ?_
        try simp only [Act.put, aL1, aL2, aL3]
        refine tn 18 ?_
        try simp only [Act.put, aL1, aL2, aL3]
        refine tn 19 ?_
        try simp only [Act.put, aL1, aL2, aL3]
        refine tn 20 ?_ (hx := fun wz hSw => by have e4 := hSw.cell 0 2 rfl rfl; go_simp; try with_reducible rfl)
        try simp only [Act.put, aL1, aL2, aL3]
        refine tn 21 ?_
        try simp only [Act.put, aL1, aL2, aL3]
        refine tn 22 ?_ (hx := fun wz hSw => by refine exec_load_range 63 _ rfl _ _ ?_ _ _ (rangeAt_below HC0.out hSw.below hbl) undCm rfl infoCm; exact rfl)
        try simp only [Act.put, aL1, aL2, aL3]
        refine tn 23 ?_
        try simp only [Act.put, aL1, aL2, aL3]
        refine tn 24 ?_ (hx := fun wz hSw => by have e4 := hSw.cell 0 2 rfl rfl; go_simp; try with_reducible rfl)
        try simp only [Act.put, aL1, aL2, aL3]
        refine tn 25 ?_
        try simp only [Act.put, aL1, aL2, aL3]
        refine tn 26 ?_ (hx := fun wz hSw => by refine exec_load_range 63 _ rfl _ _ ?_ _ _ (rangeAt_below HC1.out hSw.below hbl) undCm rfl infoCm; exact rfl)
        try simp only [Act.put, aL1, aL2, aL3]
        by_cases h2 : ¬ c = d
        · have H2 := Lib.hid h2
          clear h2
          refine tn 27 ?_ (hx := fun wz hSw => by first | (refine (show _ = Result.ok (Next.value (.bool true)) wz from ?_); go_simp; intro a1 a2 a3 a4 a5 a6 a7; exact H2.out (cvExt a1 H1.out a2 a3 a4 a5 a6 a7)) | (refine (show _ = Result.ok (Next.value (.bool false)) wz from ?_); have h9 := H2.out; subst h9; go_simp; try simp))
          try simp only [Act.put, aL1, aL2, aL3]
          refine tn 28 ?_
          try simp only [Act.put, aL1, aL2, aL3]
          refine tn 29 ?_
          try simp only [Act.put, aL1, aL2, aL3]
          refine rdone (NoPanic.normal ?_)
          have HT : Hid (cFork ⟨xo, xw, [c, d], xp⟩ = true) := Lib.hid (by show (allB [c, d] xo && forkB c d) = true; rw [HAL.out]; unfold forkB; (try have h1 := H1.out); (try have h2 := H2.out); simp [*])
          go_wp2_with fail
          go_ret
          exact retB_mk HT.out hHeld.below
        · have H2 : Hid (c = d) := Lib.hid (Classical.not_not.1 h2)
          clear h2
          refine tn 27 ?_ (hx := fun wz hSw => by first | (refine (show _ = Result.ok (Next.value (.bool true)) wz from ?_); go_simp; intro a1 a2 a3 a4 a5 a6 a7; exact H2.out (cvExt a1 H1.out a2 a3 a4 a5 a6 a7)) | (refine (show _ = Result.ok (Next.value (.bool false)) wz from ?_); have h9 := H2.out; subst h9; go_simp; try simp))
          try simp only [Act.put, aL1, aL2, aL3]
          refine tn 28 ?_
          try simp only [Act.put, aL1, aL2, aL3]
          refine tn 29 ?_
          try simp only [Act.put, aL1, aL2, aL3]
          refine rdone (NoPanic.normal ?_)
          have HT : Hid (cFork ⟨xo, xw, [c, d], xp⟩ = false) := Lib.hid (by show (allB [c, d] xo && forkB c d) = false; rw [HAL.out]; unfold forkB; (try have h1 := H1.out); (try have h2 := H2.out); simp [*])
          go_wp2_with fail
          go_ret
          exact retB_mk HT.out hHeld.below
      · have q1a : (c.hour == d.hour) = false := by rw [beq_eq_false_iff_ne]; exact h1
        have q1b : decide (c.hour = d.hour) = false := decide_eq_false h1
        have H1 := Lib.hid h1
        clear h1
        refine tn 16 ?_
        try simp only [Act.put, aL1, aL2, aL3]
        refine tn 17 ?_
        try simp only [Act.put, aL1, aL2, aL3]
        refine tn 18 ?_
        try simp only [Act.put, aL1, aL2, aL3]
        refine skn 2 [(19, some 24), (20, some 25), (21, some 26), (22, some 27), (23, some 28), (24, some 29), (25, some 30), (26, some 31), (27, some 32)] ?_
        simp only [List.foldl_cons, List.foldl_nil, Act.put, aL1, aL2, aL3]
        refine tn 28 ?_
        try simp only [Act.put, aL1, aL2, aL3]
        refine tn 29 ?_
        try simp only [Act.put, aL1, aL2, aL3]
        refine rdone (NoPanic.normal ?_)
        have HT : Hid (cFork ⟨xo, xw, [c, d], xp⟩ = false) := Lib.hid (by show (allB [c, d] xo && forkB c d) = false; rw [HAL.out]; unfold forkB; (try have h1 := H1.out); (try have h2 := H2.out); simp [*])
        go_wp2_with fail
        go_ret
        exact retB_mk HT.out hHeld.below
    | false =>
      have HAL : Hid (allB [c, d] xo = false) := Lib.hid hal
      have HAv : Hid ((decide (([c, d] : List CV).length = 2) && allB [c, d] xo) = false) := Lib.hid (by rw [hal]; rfl)
      clear hal
      have HAll : Hid (∀ w0, Below w.heap.size w w0 → Calls Tryz.prog 92 #[.slice (some ⟨b, o, none⟩) 2 lc, .int .i64 2, .int .i64 xo] w0 fun e w' => e = .returned (.bool false) ∧ Below w0.heap.size w0 w') := Lib.hid (fun w0 hb => by have h := all_any [c, d] _ 2 xo w0 (HL.out.below stays_RC hb) (by simp) (by decide); rw [HAv.out] at h; exact h)
      refine rd1 4 (fun K hK => ?_)
      go_simp
      refine (HAll.out _ hHeld.below).mono ?_
      rintro e w' ⟨rfl, hb⟩
      refine hK.out _ _ (hHeld.step hb) (fun hHeld => ?_)
      clear hK K
      try simp only [Act.put, aL1, aL2, aL3]
      refine tn 5 ?_
      try simp only [Act.put, aL1, aL2, aL3]
      refine skn 13 [(6, some 11), (7, some 12), (8, some 13), (9, some 14), (10, some 15), (11, some 16), (12, some 17), (13, some 18), (14, some 19), (15, some 20), (16, some 21)] ?_
      simp only [List.foldl_cons, List.foldl_nil, Act.put, aL1, aL2, aL3]
      refine tn 17 ?_
      try simp only [Act.put, aL1, aL2, aL3]
      refine tn 18 ?_
      try simp only [Act.put, aL1, aL2, aL3]
      refine skn 2 [(19, some 24), (20, some 25), (21, some 26), (22, some 27), (23, some 28), (24, some 29), (25, some 30), (26, some 31), (27, some 32)] ?_
      simp only [List.foldl_cons, List.foldl_nil, Act.put, aL1, aL2, aL3]
      refine tn 28 ?_
      try simp only [Act.put, aL1, aL2, aL3]
      refine tn 29 ?_
      try simp only [Act.put, aL1, aL2, aL3]
      refine rdone (NoPanic.normal ?_)
      have HT : Hid (cFork ⟨xo, xw, [c, d], xp⟩ = false) := Lib.hid (by show (allB [c, d] xo && forkB c d) = false; rw [HAL.out]; unfold forkB; (try have h1 := H1.out); (try have h2 := H2.out); simp [*])
      go_wp2_with fail
      go_ret
      exact retB_mk HT.out hHeld.below
  · have HT : Hid (cFork ⟨xo, xw, xc, xp⟩ = false) := Lib.hid (by
      rcases xc with _ | ⟨c1, _ | ⟨c2, _ | ⟨c3, _ | ⟨c4, _ | ⟨c5, t⟩⟩⟩⟩⟩ <;> first | (simp at hlen; done) | (unfold cFork; simp; done) | (unfold cFork; rfl))
    have HAv : Hid ((decide (xc.length = 2) && allB xc xo) = false) := Lib.hid (by rw [decide_eq_false hlen]; rfl)
    have HAll : Hid (∀ w0, Below w.heap.size w w0 → Calls Tryz.prog 92 #[.slice al xc.length lc, .int .i64 2, .int .i64 xo] w0 fun e w' => e = .returned (.bool false) ∧ Below w0.heap.size w0 w') := Lib.hid (fun w0 hb => by have h := all_any xc _ 2 xo w0 (HL.out.below stays_RC hb) hl (by decide); rw [HAv.out] at h; exact h)
    clear hL hk hlen
    have HR := Lib.hid ((RowsS.nil w).alloc (.cells #[.int .i64 xo, .int .i64 xw, .slice al xc.length lc, .int .i64 xp.office, .int .i64 xp.since, .int .i64 xp.till, .int .i64 xp.litres, .int .i64 xp.e, .int .i64 xp.s] 40))
    go_enter Tryz.func62, Tryz.ntmps62
    go_upto_region 1 with fail
    generalize w.alloc (.cells #[.int .i64 xo, .int .i64 xw, .slice al xc.length lc, .int .i64 xp.office, .int .i64 xp.since, .int .i64 xp.till, .int .i64 xp.litres, .int .i64 xp.e, .int .i64 xp.s] 40) = w0 at *
    refine wp_region_noPanic ?_
    refine wp_region_held_drew (S := fun cw => RowsS w [(w.heap.size, .cells #[.int .i64 xo, .int .i64 xw, .slice al xc.length lc, .int .i64 xp.office, .int .i64 xp.since, .int .i64 xp.till, .int .i64 xp.litres, .int .i64 xp.e, .int .i64 xp.s] 40)] cw) (by kernel_rfl) (HR.out.drew) (fun hHeld => ?_)
    refine tn 0 ?_
    try simp only [Act.put, aL1, aL2, aL3]
    refine tn 1 ?_ (hx := fun wz hSw => by have e4 := hSw.cell 0 2 rfl rfl; go_simp; try with_reducible rfl)
    try simp only [Act.put, aL1, aL2, aL3]
    refine tn 2 ?_
    try simp only [Act.put, aL1, aL2, aL3]
    refine tn 3 ?_ (hx := fun wz hSw => by have e4 := hSw.cell 0 0 rfl rfl; go_simp; try with_reducible rfl)
    try simp only [Act.put, aL1, aL2, aL3]
    refine rd1 4 (fun K hK => ?_)
    go_simp
    refine (HAll.out _ hHeld.below).mono ?_
    rintro e w' ⟨rfl, hb⟩
    refine hK.out _ _ (hHeld.step hb) (fun hHeld => ?_)
    clear hK K
    try simp only [Act.put, aL1, aL2, aL3]
    refine tn 5 ?_
    try simp only [Act.put, aL1, aL2, aL3]
    refine skn 13 [(6, some 11), (7, some 12), (8, some 13), (9, some 14), (10, some 15), (11, some 16), (12, some 17), (13, some 18), (14, some 19), (15, some 20), (16, some 21)] ?_
    simp only [List.foldl_cons, List.foldl_nil, Act.put, aL1, aL2, aL3]
    refine tn 17 ?_
    try simp only [Act.put, aL1, aL2, aL3]
    refine tn 18 ?_
    try simp only [Act.put, aL1, aL2, aL3]
    refine skn 2 [(19, some 24), (20, some 25), (21, some 26), (22, some 27), (23, some 28), (24, some 29), (25, some 30), (26, some 31), (27, some 32)] ?_
    simp only [List.foldl_cons, List.foldl_nil, Act.put, aL1, aL2, aL3]
    refine tn 28 ?_
    try simp only [Act.put, aL1, aL2, aL3]
    refine tn 29 ?_
    try simp only [Act.put, aL1, aL2, aL3]
    refine rdone (NoPanic.normal ?_)
    go_wp2_with fail
    go_ret
    exact retB_mk HT.out hHeld.below
set_option maxRecDepth 100000 in
set_option maxHeartbeats 8000000 in
theorem isRange_any (jb mb : Nat) (ar ap : Option Addr) (cr cp : Nat) (err : Int) (room ps : List Int) (pubs : List PublicV) (xo xw : Int) (xc : List CV) (xp : PV) (al : Option Addr) (lc : Nat) (w : World) (hJ : JudgeAt jb mb ar ap cr cp err room ps pubs w) (hL : LArg RC 8 (.slice al xc.length lc) xc w) (hl : xc.length ≤ 1000) (hk : ∀ c ∈ xc, kB ps c = true) (_hI : ∀ p ∈ pubs, PbI p) (_hpl : pubs.length ≤ 1000) :
    Calls Tryz.prog 64 #[.pointer (some ⟨jb, 0, none⟩), .agg #[.int .i64 xo, .int .i64 xw, .slice al xc.length lc, .int .i64 xp.office, .int .i64 xp.since, .int .i64 xp.till, .int .i64 xp.litres, .int .i64 xp.e, .int .i64 xp.s]] w (RetB (cRange (judgeV err room ps pubs) ⟨xo, xw, xc, xp⟩) w) := by
  have HJ := Lib.hid hJ.row
  have hjl := blk_lt hJ.row
  have HL := Lib.hid hL
  have HK := Lib.hid hk
  by_cases hlen : xc.length = 1
  · obtain ⟨c, rfl⟩ : ∃ c, xc = [c] := by
      rcases xc with _ | ⟨c1, _ | ⟨c2, _ | ⟨c3, _ | ⟨c4, _ | ⟨c5, t⟩⟩⟩⟩⟩ <;> first | (simp at hlen; done) | exact ⟨_, rfl⟩ | exact ⟨_, _, rfl⟩ | exact ⟨_, _, _, rfl⟩ | exact ⟨_, _, _, _, rfl⟩ | (simp at hlen; omega)
    obtain ⟨b, o, cs0, rfl, hbl, -, hr0, hc0, -⟩ := HL.out.at (j := 0) rfl
    unfold cellsC at hc0
    subst hc0
    have HC0 : Hid (w.rangeAt b o [.int .i64 c.office, .int .i64 c.hour, .int .i64 c.inn, .int .i64 c.out, .int .i64 c.store, .string c.prev, .int .i64 c.e, .int .i64 c.s]) := Lib.hid (by rw [Nat.zero_mul, Nat.add_zero] at hr0; exact hr0)
    clear hr0
    obtain ⟨hnc, hoc, hhc, hic⟩ := kB_num (HK.out c (by simp))
    clear hL hk hlen
    dsimp only [List.length_cons, List.length_nil, Nat.zero_add, Nat.reduceAdd] at *
    obtain ⟨j, hj⟩ : ∃ j : Nat, c.office = (j : Int) := ⟨c.office.toNat, by omega⟩
    have HRa : Hid (∀ w0, Below w.heap.size w w0 → Calls Tryz.prog 54 #[.pointer (some ⟨jb, 0, none⟩), .agg #[.int .i64 c.office, .int .i64 c.hour, .int .i64 c.inn, .int .i64 c.out, .int .i64 c.store, .string c.prev, .int .i64 c.e, .int .i64 c.s]] w0 (RetB (rangeB (judgeV err room ps pubs) c) w0)) := Lib.hid (fun w0 hb => by have h := range_any jb mb ar ap cr cp err room ps pubs (hoursF pubs) (kB ps) (vB ps) c j w0 (hJ.below hb) (by omega) hj hnc; rw [← hj] at h; exact h)
    clear hj
    clear hJ
    have HR := Lib.hid ((RowsS.nil w).alloc (.cells #[.int .i64 xo, .int .i64 xw, .slice (some ⟨b, o, none⟩) 1 lc, .int .i64 xp.office, .int .i64 xp.since, .int .i64 xp.till, .int .i64 xp.litres, .int .i64 xp.e, .int .i64 xp.s] 40))
    go_enter Tryz.func64, Tryz.ntmps64
    go_upto_region 1 with fail
    generalize w.alloc (.cells #[.int .i64 xo, .int .i64 xw, .slice (some ⟨b, o, none⟩) 1 lc, .int .i64 xp.office, .int .i64 xp.since, .int .i64 xp.till, .int .i64 xp.litres, .int .i64 xp.e, .int .i64 xp.s] 40) = w0 at *
    have x2 := HR.out.cell 0 2 rfl rfl
    have x0 := HR.out.cell 0 0 rfl rfl
    cases hal : allB [c] xo with
    | true =>
      have HAL : Hid (allB [c] xo = true) := Lib.hid hal
      have HAv : Hid ((decide (([c] : List CV).length = 1) && allB [c] xo) = true) := Lib.hid (by rw [hal]; rfl)
      clear hal
      have HAll : Hid (∀ w0, Below w.heap.size w w0 → Calls Tryz.prog 92 #[.slice (some ⟨b, o, none⟩) 1 lc, .int .i64 1, .int .i64 xo] w0 fun e w' => e = .returned (.bool true) ∧ Below w0.heap.size w0 w') := Lib.hid (fun w0 hb => by have h := all_any [c] _ 1 xo w0 (HL.out.below stays_RC hb) (by simp) (by decide); rw [HAv.out] at h; exact h)
      go_wp2_with fail
      refine (HAll.out _ HR.out.below).mono ?_
      rintro e w1 ⟨rfl, hb1⟩
      have HR1 := Lib.hid (HR.out.step hb1)
      clear hb1
      have x2 := HR1.out.cell 0 2 rfl rfl
      have HG1 := Lib.hid (rangeAt_below HC0.out HR1.out.below hbl)
      go_wp2_with (refine wpList_load_range (by first | (go_simp; done) | rfl) 63 _ rfl _ _ rfl _ _ HG1.out undCm rfl infoCm ?_)
      refine (HRa.out _ HR1.out.below).mono ?_
      rintro e w2 ⟨rfl, hb2⟩
      have HR2 := Lib.hid (HR1.out.step hb2)
      clear hb2
      have HT : Hid (cRange (judgeV err room ps pubs) ⟨xo, xw, [c], xp⟩ = rangeB (judgeV err room ps pubs) c) := Lib.hid (by show (allB [c] xo && rangeB _ c) = _; rw [HAL.out]; rfl)
      go_wp2_with fail
      go_ret
      exact retB_mk HT.out HR2.out.below
    | false =>
      have HAL : Hid (allB [c] xo = false) := Lib.hid hal
      have HAv : Hid ((decide (([c] : List CV).length = 1) && allB [c] xo) = false) := Lib.hid (by rw [hal]; rfl)
      clear hal
      have HAll : Hid (∀ w0, Below w.heap.size w w0 → Calls Tryz.prog 92 #[.slice (some ⟨b, o, none⟩) 1 lc, .int .i64 1, .int .i64 xo] w0 fun e w' => e = .returned (.bool false) ∧ Below w0.heap.size w0 w') := Lib.hid (fun w0 hb => by have h := all_any [c] _ 1 xo w0 (HL.out.below stays_RC hb) (by simp) (by decide); rw [HAv.out] at h; exact h)
      go_wp2_with fail
      refine (HAll.out _ HR.out.below).mono ?_
      rintro e w1 ⟨rfl, hb1⟩
      have HR1 := Lib.hid (HR.out.step hb1)
      clear hb1
      have HT : Hid (cRange (judgeV err room ps pubs) ⟨xo, xw, [c], xp⟩ = false) := Lib.hid (by show (allB [c] xo && rangeB _ c) = false; rw [HAL.out]; rfl)
      go_wp2_with fail
      go_ret
      exact retB_mk HT.out HR1.out.below
  · have HT : Hid (cRange (judgeV err room ps pubs) ⟨xo, xw, xc, xp⟩ = false) := Lib.hid (by
      rcases xc with _ | ⟨c1, _ | ⟨c2, _ | ⟨c3, _ | ⟨c4, _ | ⟨c5, t⟩⟩⟩⟩⟩ <;> first | (simp at hlen; done) | (unfold cRange; simp; done) | (unfold cRange; rfl))
    have HAv : Hid ((decide (xc.length = 1) && allB xc xo) = false) := Lib.hid (by rw [decide_eq_false hlen]; rfl)
    have HAll : Hid (∀ w0, Below w.heap.size w w0 → Calls Tryz.prog 92 #[.slice al xc.length lc, .int .i64 1, .int .i64 xo] w0 fun e w' => e = .returned (.bool false) ∧ Below w0.heap.size w0 w') := Lib.hid (fun w0 hb => by have h := all_any xc _ 1 xo w0 (HL.out.below stays_RC hb) hl (by decide); rw [HAv.out] at h; exact h)
    clear hL hk hlen hJ
    have HR := Lib.hid ((RowsS.nil w).alloc (.cells #[.int .i64 xo, .int .i64 xw, .slice al xc.length lc, .int .i64 xp.office, .int .i64 xp.since, .int .i64 xp.till, .int .i64 xp.litres, .int .i64 xp.e, .int .i64 xp.s] 40))
    go_enter Tryz.func64, Tryz.ntmps64
    go_upto_region 1 with fail
    generalize w.alloc (.cells #[.int .i64 xo, .int .i64 xw, .slice al xc.length lc, .int .i64 xp.office, .int .i64 xp.since, .int .i64 xp.till, .int .i64 xp.litres, .int .i64 xp.e, .int .i64 xp.s] 40) = w0 at *
    have x2 := HR.out.cell 0 2 rfl rfl
    have x0 := HR.out.cell 0 0 rfl rfl
    go_wp2_with fail
    refine (HAll.out _ HR.out.below).mono ?_
    rintro e w1 ⟨rfl, hb1⟩
    have HR1 := Lib.hid (HR.out.step hb1)
    clear hb1
    go_wp2_with fail
    go_ret
    exact retB_mk HT.out HR1.out.below
end Go.Proofs.YtjbjpkhibcnenaaGreatDoor

