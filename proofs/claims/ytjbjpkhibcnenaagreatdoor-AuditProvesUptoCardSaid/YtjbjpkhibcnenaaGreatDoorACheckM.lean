/- audit.Check: the conditions. -/
import Derived.Test.YtjbjpkhibcnenaaGreatDoorACheck
namespace Go.Proofs.YtjbjpkhibcnenaaGreatDoor
open Go.RowKit
set_option maxRecDepth 100000 in
set_option maxHeartbeats 8000000 in
theorem isMiddle_any (jb mb : Nat) (ar ap : Option Addr) (cr cp : Nat) (err : Int) (room ps : List Int) (pubs : List PublicV) (xo xw : Int) (xc : List CV) (xp : PV) (al : Option Addr) (lc : Nat) (w : World) (hJ : JudgeAt jb mb ar ap cr cp err room ps pubs w) (hL : LArg RC 8 (.slice al xc.length lc) xc w) (hl : xc.length ≤ 1000) (hk : ∀ c ∈ xc, kB ps c = true) (_hI : ∀ p ∈ pubs, PbI p) (_hpl : pubs.length ≤ 1000) :
    Calls Tryz.prog 66 #[.pointer (some ⟨jb, 0, none⟩), .agg #[.int .i64 xo, .int .i64 xw, .slice al xc.length lc, .int .i64 xp.office, .int .i64 xp.since, .int .i64 xp.till, .int .i64 xp.litres, .int .i64 xp.e, .int .i64 xp.s]] w (RetB (cMiddle (judgeV err room ps pubs) ⟨xo, xw, xc, xp⟩) w) := by
  have HJ := Lib.hid hJ.row
  have hjl := blk_lt hJ.row
  have HL := Lib.hid hL
  have HK := Lib.hid hk
  by_cases hlen : xc.length = 4
  · obtain ⟨c1, c2, c3, c4, rfl⟩ : ∃ c1 c2 c3 c4, xc = [c1, c2, c3, c4] := by
      rcases xc with _ | ⟨c1, _ | ⟨c2, _ | ⟨c3, _ | ⟨c4, _ | ⟨c5, t⟩⟩⟩⟩⟩ <;> first | (simp at hlen; done) | exact ⟨_, rfl⟩ | exact ⟨_, _, rfl⟩ | exact ⟨_, _, _, rfl⟩ | exact ⟨_, _, _, _, rfl⟩ | (simp at hlen; omega)
    obtain ⟨b, o, cs0, rfl, hbl, -, hr0, hc0, -⟩ := HL.out.at (j := 0) rfl
    unfold cellsC at hc0
    subst hc0
    have HC0 : Hid (w.rangeAt b o [.int .i64 c1.office, .int .i64 c1.hour, .int .i64 c1.inn, .int .i64 c1.out, .int .i64 c1.store, .string c1.prev, .int .i64 c1.e, .int .i64 c1.s]) := Lib.hid (by rw [Nat.zero_mul, Nat.add_zero] at hr0; exact hr0)
    obtain ⟨b', o', cs1, he1, -, -, hr1, hc1, -⟩ := HL.out.at (j := 1) rfl
    unfold cellsC at hc1
    subst hc1
    simp only [Option.some.injEq, Addr.mk.injEq, and_true] at he1
    obtain ⟨rfl, rfl⟩ := he1
    have HC1 : Hid (w.rangeAt b (o + 8) [.int .i64 c2.office, .int .i64 c2.hour, .int .i64 c2.inn, .int .i64 c2.out, .int .i64 c2.store, .string c2.prev, .int .i64 c2.e, .int .i64 c2.s]) := Lib.hid (by exact hr1)
    obtain ⟨b', o', cs2, he2, -, -, hr2, hc2, -⟩ := HL.out.at (j := 2) rfl
    unfold cellsC at hc2
    subst hc2
    simp only [Option.some.injEq, Addr.mk.injEq, and_true] at he2
    obtain ⟨rfl, rfl⟩ := he2
    have HC2 : Hid (w.rangeAt b (o + 16) [.int .i64 c3.office, .int .i64 c3.hour, .int .i64 c3.inn, .int .i64 c3.out, .int .i64 c3.store, .string c3.prev, .int .i64 c3.e, .int .i64 c3.s]) := Lib.hid (by exact hr2)
    obtain ⟨b', o', cs3, he3, -, -, hr3, hc3, -⟩ := HL.out.at (j := 3) rfl
    unfold cellsC at hc3
    subst hc3
    simp only [Option.some.injEq, Addr.mk.injEq, and_true] at he3
    obtain ⟨rfl, rfl⟩ := he3
    have HC3 : Hid (w.rangeAt b (o + 24) [.int .i64 c4.office, .int .i64 c4.hour, .int .i64 c4.inn, .int .i64 c4.out, .int .i64 c4.store, .string c4.prev, .int .i64 c4.e, .int .i64 c4.s]) := Lib.hid (by exact hr3)
    clear hr0 hr1 hr2 hr3
    obtain ⟨hnc1, hoc1, hhc1, hic1⟩ := kB_num (HK.out c1 (by simp))
    obtain ⟨hnc2, hoc2, hhc2, hic2⟩ := kB_num (HK.out c2 (by simp))
    obtain ⟨hnc3, hoc3, hhc3, hic3⟩ := kB_num (HK.out c3 (by simp))
    obtain ⟨hnc4, hoc4, hhc4, hic4⟩ := kB_num (HK.out c4 (by simp))
    clear hL hk hlen
    dsimp only [List.length_cons, List.length_nil, Nat.zero_add, Nat.reduceAdd] at *
    obtain ⟨a0, k0, hs0, hl0⟩ : ∃ a0 k0, (∀ W, (Instr.sliceAt 33 (.slice (some ⟨b, o, none⟩) 4 lc) none (some (.int .i64 1)) none).run Tryz.prog W = .ok (.slice a0 1 k0) W) ∧ LArg RC 8 (.slice a0 1 k0) [c1] w := by
      have h := larg_sub (lo := 0) (hi := 1) undCs elemCs sizeCs HL.out (by decide) (by simp)
      exact ⟨_, _, h.2.2.1 rfl, h.1⟩
    have HS0 := Lib.hid hs0
    have HL0 := Lib.hid hl0
    clear hs0 hl0
    obtain ⟨a1, k1, hs1, hl1⟩ : ∃ a1 k1, (∀ W, (Instr.sliceAt 33 (.slice (some ⟨b, o, none⟩) 4 lc) (some (.int .i64 1)) (some (.int .i64 3)) none).run Tryz.prog W = .ok (.slice a1 2 k1) W) ∧ LArg RC 8 (.slice a1 2 k1) [c2, c3] w := by
      have h := larg_sub (lo := 1) (hi := 3) undCs elemCs sizeCs HL.out (by decide) (by simp)
      exact ⟨_, _, h.2.1, h.1⟩
    have HS1 := Lib.hid hs1
    have HL1 := Lib.hid hl1
    clear hs1 hl1
    obtain ⟨a2, k2, hs2, hl2⟩ : ∃ a2 k2, (∀ W, (Instr.sliceAt 33 (.slice (some ⟨b, o, none⟩) 4 lc) (some (.int .i64 3)) none none).run Tryz.prog W = .ok (.slice a2 1 k2) W) ∧ LArg RC 8 (.slice a2 1 k2) [c4] w := by
      have h := larg_sub (lo := 3) (hi := 4) undCs elemCs sizeCs HL.out (by decide) (by simp)
      exact ⟨_, _, h.2.2.2 rfl, h.1⟩
    have HS2 := Lib.hid hs2
    have HL2 := Lib.hid hl2
    clear hs2 hl2
    have HR := Lib.hid ((RowsS.nil w).alloc (.cells #[.int .i64 xo, .int .i64 xw, .slice (some ⟨b, o, none⟩) 4 lc, .int .i64 xp.office, .int .i64 xp.since, .int .i64 xp.till, .int .i64 xp.litres, .int .i64 xp.e, .int .i64 xp.s] 40))
    go_enter Tryz.func66, Tryz.ntmps66
    go_upto_region 1 with fail
    generalize w.alloc (.cells #[.int .i64 xo, .int .i64 xw, .slice (some ⟨b, o, none⟩) 4 lc, .int .i64 xp.office, .int .i64 xp.since, .int .i64 xp.till, .int .i64 xp.litres, .int .i64 xp.e, .int .i64 xp.s] 40) = w0 at *
    have x2 := HR.out.cell 0 2 rfl rfl
    go_upto_region 2 with fail
    clear x2
    refine wp_region_noPanic ?_
    refine wp_region_held_drew (S := fun cw => RowsS w [(w.heap.size, .cells #[.int .i64 xo, .int .i64 xw, .slice (some ⟨b, o, none⟩) 4 lc, .int .i64 xp.office, .int .i64 xp.since, .int .i64 xp.till, .int .i64 xp.litres, .int .i64 xp.e, .int .i64 xp.s] 40)] cw) (by kernel_rfl) (HR.out.drew) (fun hHeld => ?_)
    refine tn 0 ?_
    try simp only [Act.put, aL1, aL2, aL3]
    refine tn 1 ?_ (hx := fun wz hSw => by have e4 := hSw.cell 0 0 rfl rfl; go_simp; try with_reducible rfl)
    try simp only [Act.put, aL1, aL2, aL3]
    by_cases h1 : xo = 1
    · have q1a : (xo == 1) = true := by rw [beq_iff_eq]; exact h1
      have q1b : decide (xo = 1) = true := decide_eq_true h1
      have H1 := Lib.hid h1
      clear h1
      refine tn 2 ?_
      try simp only [Act.put, aL1, aL2, aL3]
      refine tn 3 ?_
      try simp only [Act.put, aL1, aL2, aL3]
      refine tn 4 ?_
      try simp only [Act.put, aL1, aL2, aL3]
      refine tn 5 ?_
      try simp only [Act.put, aL1, aL2, aL3]
      refine tn 6 ?_
      try simp only [Act.put, aL1, aL2, aL3]
      refine tn 7 ?_
      try simp only [Act.put, aL1, aL2, aL3]
      refine tn 8 ?_
      try simp only [Act.put, aL1, aL2, aL3]
      refine tn 9 ?_
      try simp only [Act.put, aL1, aL2, aL3]
      refine tn 10 ?_ (hx := fun wz hSw => by refine exec_sliceAt ?_ ?_ ?_ ?_ ?_ ?_ (.slice a0 1 k0) ?_; rotate_left 5; exact rfl; exact HS0.out _)
      try simp only [Act.put, aL1, aL2, aL3]
      cases hal : allB [c1] 0 with
      | true =>
        have HAL0 : Hid (allB [c1] 0 = true) := Lib.hid hal
        have HAll0 : Hid (∀ w0, Below w.heap.size w w0 → Calls Tryz.prog 92 #[.slice a0 1 k0, .int .i64 1, .int .i64 0] w0 fun e w' => e = .returned (.bool true) ∧ Below w0.heap.size w0 w') := Lib.hid (fun w0 hb => by have h := all_any [c1] _ 1 0 w0 (HL0.out.below stays_RC hb) (by simp) (by decide); rw [show (decide (([c1] : List CV).length = 1) && allB [c1] 0) = true by rw [hal]; rfl] at h; exact h)
        clear hal
        refine rd1 11 (fun K hK => ?_)
        go_simp
        refine (HAll0.out _ hHeld.below).mono ?_
        rintro e w' ⟨rfl, hb⟩
        refine hK.out _ _ (hHeld.step hb) (fun hHeld => ?_)
        clear hK K
        try simp only [Act.put, aL1, aL2, aL3]
        refine tn 12 ?_
        try simp only [Act.put, aL1, aL2, aL3]
        refine tn 13 ?_
        try simp only [Act.put, aL1, aL2, aL3]
        refine tn 14 ?_
        try simp only [Act.put, aL1, aL2, aL3]
        refine tn 15 ?_ (hx := fun wz hSw => by refine exec_sliceAt ?_ ?_ ?_ ?_ ?_ ?_ (.slice a1 2 k1) ?_; rotate_left 5; exact rfl; exact HS1.out _)
        try simp only [Act.put, aL1, aL2, aL3]
        cases hal : allB [c2, c3] 1 with
        | true =>
          have HAL1 : Hid (allB [c2, c3] 1 = true) := Lib.hid hal
          have HAll1 : Hid (∀ w0, Below w.heap.size w w0 → Calls Tryz.prog 92 #[.slice a1 2 k1, .int .i64 2, .int .i64 1] w0 fun e w' => e = .returned (.bool true) ∧ Below w0.heap.size w0 w') := Lib.hid (fun w0 hb => by have h := all_any [c2, c3] _ 2 1 w0 (HL1.out.below stays_RC hb) (by simp) (by decide); rw [show (decide (([c2, c3] : List CV).length = 2) && allB [c2, c3] 1) = true by rw [hal]; rfl] at h; exact h)
          clear hal
          refine rd1 16 (fun K hK => ?_)
          go_simp
          refine (HAll1.out _ hHeld.below).mono ?_
          rintro e w' ⟨rfl, hb⟩
          refine hK.out _ _ (hHeld.step hb) (fun hHeld => ?_)
          clear hK K
          try simp only [Act.put, aL1, aL2, aL3]
          refine tn 17 ?_
          try simp only [Act.put, aL1, aL2, aL3]
          refine tn 18 ?_
          try simp only [Act.put, aL1, aL2, aL3]
          refine tn 19 ?_
          try simp only [Act.put, aL1, aL2, aL3]
          refine tn 20 ?_ (hx := fun wz hSw => by refine exec_sliceAt ?_ ?_ ?_ ?_ ?_ ?_ (.slice a2 1 k2) ?_; rotate_left 5; exact rfl; exact HS2.out _)
          try simp only [Act.put, aL1, aL2, aL3]
          cases hal : allB [c4] 2 with
          | true =>
            have HAL2 : Hid (allB [c4] 2 = true) := Lib.hid hal
            have HAll2 : Hid (∀ w0, Below w.heap.size w w0 → Calls Tryz.prog 92 #[.slice a2 1 k2, .int .i64 1, .int .i64 2] w0 fun e w' => e = .returned (.bool true) ∧ Below w0.heap.size w0 w') := Lib.hid (fun w0 hb => by have h := all_any [c4] _ 1 2 w0 (HL2.out.below stays_RC hb) (by simp) (by decide); rw [show (decide (([c4] : List CV).length = 1) && allB [c4] 2) = true by rw [hal]; rfl] at h; exact h)
            clear hal
            refine rd1 21 (fun K hK => ?_)
            go_simp
            refine (HAll2.out _ hHeld.below).mono ?_
            rintro e w' ⟨rfl, hb⟩
            refine hK.out _ _ (hHeld.step hb) (fun hHeld => ?_)
            clear hK K
            try simp only [Act.put, aL1, aL2, aL3]
            refine tn 22 ?_
            try simp only [Act.put, aL1, aL2, aL3]
            refine tn 23 ?_
            try simp only [Act.put, aL1, aL2, aL3]
            refine tn 24 ?_
            try simp only [Act.put, aL1, aL2, aL3]
            refine tn 25 ?_
            try simp only [Act.put, aL1, aL2, aL3]
            refine tn 26 ?_
            try simp only [Act.put, aL1, aL2, aL3]
            refine tn 27 ?_ (hx := fun wz hSw => by refine exec_load_range 63 _ rfl _ _ ?_ _ _ (rangeAt_below HC0.out hSw.below hbl) undCm rfl infoCm; exact rfl)
            try simp only [Act.put, aL1, aL2, aL3]
            refine tn 28 ?_
            try simp only [Act.put, aL1, aL2, aL3]
            refine tn 29 ?_
            try simp only [Act.put, aL1, aL2, aL3]
            refine tn 30 ?_ (hx := fun wz hSw => by refine exec_load_range 63 _ rfl _ _ ?_ _ _ (rangeAt_below HC1.out hSw.below hbl) undCm rfl infoCm; exact rfl)
            try simp only [Act.put, aL1, aL2, aL3]
            cases hdv : disB (judgeV err room ps pubs) c1 c2 with
            | true =>
              have HD0v := Lib.hid hdv
              have HDi0 : Hid (∀ w0, Below w.heap.size w w0 → Calls Tryz.prog 58 #[.pointer (some ⟨jb, 0, none⟩), .agg #[.int .i64 c1.office, .int .i64 c1.hour, .int .i64 c1.inn, .int .i64 c1.out, .int .i64 c1.store, .string c1.prev, .int .i64 c1.e, .int .i64 c1.s], .agg #[.int .i64 c2.office, .int .i64 c2.hour, .int .i64 c2.inn, .int .i64 c2.out, .int .i64 c2.store, .string c2.prev, .int .i64 c2.e, .int .i64 c2.s]] w0 fun e w' => e = .returned (.bool true) ∧ Below w0.heap.size w0 w') := Lib.hid (fun w0 hb => by have h := disagree_any jb mb ar ap cr cp err room ps pubs (hoursF pubs) (kB ps) (vB ps) c1 c2 w0 (hJ.below hb) hnc1 hnc2; rw [show disB ⟨err, room, hoursF pubs, kB ps, vB ps⟩ c1 c2 = true from hdv] at h; exact h)
              clear hdv
              refine rd1 31 (fun K hK => ?_)
              go_simp
              refine (HDi0.out _ hHeld.below).mono ?_
              rintro e w' ⟨rfl, hb⟩
              refine hK.out _ _ (hHeld.step hb) (fun hHeld => ?_)
              clear hK K
              try simp only [Act.put, aL1, aL2, aL3]
              refine tn 32 ?_
              try simp only [Act.put, aL1, aL2, aL3]
              refine tn 33 ?_
              try simp only [Act.put, aL1, aL2, aL3]
              refine tn 34 ?_
              try simp only [Act.put, aL1, aL2, aL3]
              refine tn 35 ?_
              try simp only [Act.put, aL1, aL2, aL3]
              refine tn 36 ?_
              try simp only [Act.put, aL1, aL2, aL3]
              refine tn 37 ?_ (hx := fun wz hSw => by refine exec_load_range 63 _ rfl _ _ ?_ _ _ (rangeAt_below HC2.out hSw.below hbl) undCm rfl infoCm; exact rfl)
              try simp only [Act.put, aL1, aL2, aL3]
              refine tn 38 ?_
              try simp only [Act.put, aL1, aL2, aL3]
              refine tn 39 ?_
              try simp only [Act.put, aL1, aL2, aL3]
              refine tn 40 ?_ (hx := fun wz hSw => by refine exec_load_range 63 _ rfl _ _ ?_ _ _ (rangeAt_below HC3.out hSw.below hbl) undCm rfl infoCm; exact rfl)
              try simp only [Act.put, aL1, aL2, aL3]
              cases hdv : disB (judgeV err room ps pubs) c3 c4 with
              | true =>
                have HD1v := Lib.hid hdv
                have HDi1 : Hid (∀ w0, Below w.heap.size w w0 → Calls Tryz.prog 58 #[.pointer (some ⟨jb, 0, none⟩), .agg #[.int .i64 c3.office, .int .i64 c3.hour, .int .i64 c3.inn, .int .i64 c3.out, .int .i64 c3.store, .string c3.prev, .int .i64 c3.e, .int .i64 c3.s], .agg #[.int .i64 c4.office, .int .i64 c4.hour, .int .i64 c4.inn, .int .i64 c4.out, .int .i64 c4.store, .string c4.prev, .int .i64 c4.e, .int .i64 c4.s]] w0 fun e w' => e = .returned (.bool true) ∧ Below w0.heap.size w0 w') := Lib.hid (fun w0 hb => by have h := disagree_any jb mb ar ap cr cp err room ps pubs (hoursF pubs) (kB ps) (vB ps) c3 c4 w0 (hJ.below hb) hnc3 hnc4; rw [show disB ⟨err, room, hoursF pubs, kB ps, vB ps⟩ c3 c4 = true from hdv] at h; exact h)
                clear hdv
                refine rd1 41 (fun K hK => ?_)
                go_simp
                refine (HDi1.out _ hHeld.below).mono ?_
                rintro e w' ⟨rfl, hb⟩
                refine hK.out _ _ (hHeld.step hb) (fun hHeld => ?_)
                clear hK K
                try simp only [Act.put, aL1, aL2, aL3]
                refine tn 42 ?_
                try simp only [Act.put, aL1, aL2, aL3]
                refine tn 43 ?_
                try simp only [Act.put, aL1, aL2, aL3]
                refine rdone (NoPanic.normal ?_)
                have HT : Hid (cMiddle (judgeV err room ps pubs) ⟨xo, xw, [c1, c2, c3, c4], xp⟩ = true) := Lib.hid (by show (decide (xo = 1) && (allB [c1] 0 && allB [c2, c3] 1 && allB [c4] 2 && disB (judgeV err room ps pubs) c1 c2 && disB (judgeV err room ps pubs) c3 c4)) = true; (try have h1 := H1.out); (try rw [HAL0.out]); (try rw [HAL1.out]); (try rw [HAL2.out]); (try rw [HD0v.out]); (try rw [HD1v.out]); simp [*])
                go_wp2_with fail
                go_ret
                exact retB_mk HT.out hHeld.below
              | false =>
                have HD1v := Lib.hid hdv
                have HDi1 : Hid (∀ w0, Below w.heap.size w w0 → Calls Tryz.prog 58 #[.pointer (some ⟨jb, 0, none⟩), .agg #[.int .i64 c3.office, .int .i64 c3.hour, .int .i64 c3.inn, .int .i64 c3.out, .int .i64 c3.store, .string c3.prev, .int .i64 c3.e, .int .i64 c3.s], .agg #[.int .i64 c4.office, .int .i64 c4.hour, .int .i64 c4.inn, .int .i64 c4.out, .int .i64 c4.store, .string c4.prev, .int .i64 c4.e, .int .i64 c4.s]] w0 fun e w' => e = .returned (.bool false) ∧ Below w0.heap.size w0 w') := Lib.hid (fun w0 hb => by have h := disagree_any jb mb ar ap cr cp err room ps pubs (hoursF pubs) (kB ps) (vB ps) c3 c4 w0 (hJ.below hb) hnc3 hnc4; rw [show disB ⟨err, room, hoursF pubs, kB ps, vB ps⟩ c3 c4 = false from hdv] at h; exact h)
                clear hdv
                refine rd1 41 (fun K hK => ?_)
                go_simp
                refine (HDi1.out _ hHeld.below).mono ?_
                rintro e w' ⟨rfl, hb⟩
                refine hK.out _ _ (hHeld.step hb) (fun hHeld => ?_)
                clear hK K
                try simp only [Act.put, aL1, aL2, aL3]
                refine tn 42 ?_
                try simp only [Act.put, aL1, aL2, aL3]
                refine tn 43 ?_
                try simp only [Act.put, aL1, aL2, aL3]
                refine rdone (NoPanic.normal ?_)
                have HT : Hid (cMiddle (judgeV err room ps pubs) ⟨xo, xw, [c1, c2, c3, c4], xp⟩ = false) := Lib.hid (by show (decide (xo = 1) && (allB [c1] 0 && allB [c2, c3] 1 && allB [c4] 2 && disB (judgeV err room ps pubs) c1 c2 && disB (judgeV err room ps pubs) c3 c4)) = false; (try have h1 := H1.out); (try rw [HAL0.out]); (try rw [HAL1.out]); (try rw [HAL2.out]); (try rw [HD0v.out]); (try rw [HD1v.out]); simp [*])
                go_wp2_with fail
                go_ret
                exact retB_mk HT.out hHeld.below
            | false =>
              have HD0v := Lib.hid hdv
              have HDi0 : Hid (∀ w0, Below w.heap.size w w0 → Calls Tryz.prog 58 #[.pointer (some ⟨jb, 0, none⟩), .agg #[.int .i64 c1.office, .int .i64 c1.hour, .int .i64 c1.inn, .int .i64 c1.out, .int .i64 c1.store, .string c1.prev, .int .i64 c1.e, .int .i64 c1.s], .agg #[.int .i64 c2.office, .int .i64 c2.hour, .int .i64 c2.inn, .int .i64 c2.out, .int .i64 c2.store, .string c2.prev, .int .i64 c2.e, .int .i64 c2.s]] w0 fun e w' => e = .returned (.bool false) ∧ Below w0.heap.size w0 w') := Lib.hid (fun w0 hb => by have h := disagree_any jb mb ar ap cr cp err room ps pubs (hoursF pubs) (kB ps) (vB ps) c1 c2 w0 (hJ.below hb) hnc1 hnc2; rw [show disB ⟨err, room, hoursF pubs, kB ps, vB ps⟩ c1 c2 = false from hdv] at h; exact h)
              clear hdv
              refine rd1 31 (fun K hK => ?_)
              go_simp
              refine (HDi0.out _ hHeld.below).mono ?_
              rintro e w' ⟨rfl, hb⟩
              refine hK.out _ _ (hHeld.step hb) (fun hHeld => ?_)
              clear hK K
              try simp only [Act.put, aL1, aL2, aL3]
              refine tn 32 ?_
              try simp only [Act.put, aL1, aL2, aL3]
              refine tn 33 ?_
              try simp only [Act.put, aL1, aL2, aL3]
              refine skn 2 [(34, some 42), (35, some 43), (36, some 44), (37, some 45), (38, some 46), (39, some 47), (40, some 48), (41, some 49)] ?_
              simp only [List.foldl_cons, List.foldl_nil, Act.put, aL1, aL2, aL3]
              refine tn 42 ?_
              try simp only [Act.put, aL1, aL2, aL3]
              refine tn 43 ?_
              try simp only [Act.put, aL1, aL2, aL3]
              refine rdone (NoPanic.normal ?_)
              have HT : Hid (cMiddle (judgeV err room ps pubs) ⟨xo, xw, [c1, c2, c3, c4], xp⟩ = false) := Lib.hid (by show (decide (xo = 1) && (allB [c1] 0 && allB [c2, c3] 1 && allB [c4] 2 && disB (judgeV err room ps pubs) c1 c2 && disB (judgeV err room ps pubs) c3 c4)) = false; (try have h1 := H1.out); (try rw [HAL0.out]); (try rw [HAL1.out]); (try rw [HAL2.out]); (try rw [HD0v.out]); (try rw [HD1v.out]); simp [*])
              go_wp2_with fail
              go_ret
              exact retB_mk HT.out hHeld.below
          | false =>
            have HAL2 : Hid (allB [c4] 2 = false) := Lib.hid hal
            have HAll2 : Hid (∀ w0, Below w.heap.size w w0 → Calls Tryz.prog 92 #[.slice a2 1 k2, .int .i64 1, .int .i64 2] w0 fun e w' => e = .returned (.bool false) ∧ Below w0.heap.size w0 w') := Lib.hid (fun w0 hb => by have h := all_any [c4] _ 1 2 w0 (HL2.out.below stays_RC hb) (by simp) (by decide); rw [show (decide (([c4] : List CV).length = 1) && allB [c4] 2) = false by rw [hal]; rfl] at h; exact h)
            clear hal
            refine rd1 21 (fun K hK => ?_)
            go_simp
            refine (HAll2.out _ hHeld.below).mono ?_
            rintro e w' ⟨rfl, hb⟩
            refine hK.out _ _ (hHeld.step hb) (fun hHeld => ?_)
            clear hK K
            try simp only [Act.put, aL1, aL2, aL3]
            refine tn 22 ?_
            try simp only [Act.put, aL1, aL2, aL3]
            refine tn 23 ?_
            try simp only [Act.put, aL1, aL2, aL3]
            refine skn 12 [(24, some 32), (25, some 33), (26, some 34), (27, some 35), (28, some 36), (29, some 37), (30, some 38), (31, some 39)] ?_
            simp only [List.foldl_cons, List.foldl_nil, Act.put, aL1, aL2, aL3]
            refine tn 32 ?_
            try simp only [Act.put, aL1, aL2, aL3]
            refine tn 33 ?_
            try simp only [Act.put, aL1, aL2, aL3]
            refine skn 2 [(34, some 42), (35, some 43), (36, some 44), (37, some 45), (38, some 46), (39, some 47), (40, some 48), (41, some 49)] ?_
            simp only [List.foldl_cons, List.foldl_nil, Act.put, aL1, aL2, aL3]
            refine tn 42 ?_
            try simp only [Act.put, aL1, aL2, aL3]
            refine tn 43 ?_
            try simp only [Act.put, aL1, aL2, aL3]
            refine rdone (NoPanic.normal ?_)
            have HT : Hid (cMiddle (judgeV err room ps pubs) ⟨xo, xw, [c1, c2, c3, c4], xp⟩ = false) := Lib.hid (by show (decide (xo = 1) && (allB [c1] 0 && allB [c2, c3] 1 && allB [c4] 2 && disB (judgeV err room ps pubs) c1 c2 && disB (judgeV err room ps pubs) c3 c4)) = false; (try have h1 := H1.out); (try rw [HAL0.out]); (try rw [HAL1.out]); (try rw [HAL2.out]); (try rw [HD0v.out]); (try rw [HD1v.out]); simp [*])
            go_wp2_with fail
            go_ret
            exact retB_mk HT.out hHeld.below
        | false =>
          have HAL1 : Hid (allB [c2, c3] 1 = false) := Lib.hid hal
          have HAll1 : Hid (∀ w0, Below w.heap.size w w0 → Calls Tryz.prog 92 #[.slice a1 2 k1, .int .i64 2, .int .i64 1] w0 fun e w' => e = .returned (.bool false) ∧ Below w0.heap.size w0 w') := Lib.hid (fun w0 hb => by have h := all_any [c2, c3] _ 2 1 w0 (HL1.out.below stays_RC hb) (by simp) (by decide); rw [show (decide (([c2, c3] : List CV).length = 2) && allB [c2, c3] 1) = false by rw [hal]; rfl] at h; exact h)
          clear hal
          refine rd1 16 (fun K hK => ?_)
          go_simp
          refine (HAll1.out _ hHeld.below).mono ?_
          rintro e w' ⟨rfl, hb⟩
          refine hK.out _ _ (hHeld.step hb) (fun hHeld => ?_)
          clear hK K
          try simp only [Act.put, aL1, aL2, aL3]
          refine tn 17 ?_
          try simp only [Act.put, aL1, aL2, aL3]
          refine tn 18 ?_
          try simp only [Act.put, aL1, aL2, aL3]
          refine skn 22 [(19, some 27), (20, some 28), (21, some 29)] ?_
          simp only [List.foldl_cons, List.foldl_nil, Act.put, aL1, aL2, aL3]
          refine tn 22 ?_
          try simp only [Act.put, aL1, aL2, aL3]
          refine tn 23 ?_
          try simp only [Act.put, aL1, aL2, aL3]
          refine skn 12 [(24, some 32), (25, some 33), (26, some 34), (27, some 35), (28, some 36), (29, some 37), (30, some 38), (31, some 39)] ?_
          simp only [List.foldl_cons, List.foldl_nil, Act.put, aL1, aL2, aL3]
          refine tn 32 ?_
          try simp only [Act.put, aL1, aL2, aL3]
          refine tn 33 ?_
          try simp only [Act.put, aL1, aL2, aL3]
          refine skn 2 [(34, some 42), (35, some 43), (36, some 44), (37, some 45), (38, some 46), (39, some 47), (40, some 48), (41, some 49)] ?_
          simp only [List.foldl_cons, List.foldl_nil, Act.put, aL1, aL2, aL3]
          refine tn 42 ?_
          try simp only [Act.put, aL1, aL2, aL3]
          refine tn 43 ?_
          try simp only [Act.put, aL1, aL2, aL3]
          refine rdone (NoPanic.normal ?_)
          have HT : Hid (cMiddle (judgeV err room ps pubs) ⟨xo, xw, [c1, c2, c3, c4], xp⟩ = false) := Lib.hid (by show (decide (xo = 1) && (allB [c1] 0 && allB [c2, c3] 1 && allB [c4] 2 && disB (judgeV err room ps pubs) c1 c2 && disB (judgeV err room ps pubs) c3 c4)) = false; (try have h1 := H1.out); (try rw [HAL0.out]); (try rw [HAL1.out]); (try rw [HAL2.out]); (try rw [HD0v.out]); (try rw [HD1v.out]); simp [*])
          go_wp2_with fail
          go_ret
          exact retB_mk HT.out hHeld.below
      | false =>
        have HAL0 : Hid (allB [c1] 0 = false) := Lib.hid hal
        have HAll0 : Hid (∀ w0, Below w.heap.size w w0 → Calls Tryz.prog 92 #[.slice a0 1 k0, .int .i64 1, .int .i64 0] w0 fun e w' => e = .returned (.bool false) ∧ Below w0.heap.size w0 w') := Lib.hid (fun w0 hb => by have h := all_any [c1] _ 1 0 w0 (HL0.out.below stays_RC hb) (by simp) (by decide); rw [show (decide (([c1] : List CV).length = 1) && allB [c1] 0) = false by rw [hal]; rfl] at h; exact h)
        clear hal
        refine rd1 11 (fun K hK => ?_)
        go_simp
        refine (HAll0.out _ hHeld.below).mono ?_
        rintro e w' ⟨rfl, hb⟩
        refine hK.out _ _ (hHeld.step hb) (fun hHeld => ?_)
        clear hK K
        try simp only [Act.put, aL1, aL2, aL3]
        refine tn 12 ?_
        try simp only [Act.put, aL1, aL2, aL3]
        refine tn 13 ?_
        try simp only [Act.put, aL1, aL2, aL3]
        refine skn 27 [(14, some 22), (15, some 23), (16, some 24)] ?_
        simp only [List.foldl_cons, List.foldl_nil, Act.put, aL1, aL2, aL3]
        refine tn 17 ?_
        try simp only [Act.put, aL1, aL2, aL3]
        refine tn 18 ?_
        try simp only [Act.put, aL1, aL2, aL3]
        refine skn 22 [(19, some 27), (20, some 28), (21, some 29)] ?_
        simp only [List.foldl_cons, List.foldl_nil, Act.put, aL1, aL2, aL3]
        refine tn 22 ?_
        try simp only [Act.put, aL1, aL2, aL3]
        refine tn 23 ?_
        try simp only [Act.put, aL1, aL2, aL3]
        refine skn 12 [(24, some 32), (25, some 33), (26, some 34), (27, some 35), (28, some 36), (29, some 37), (30, some 38), (31, some 39)] ?_
        simp only [List.foldl_cons, List.foldl_nil, Act.put, aL1, aL2, aL3]
        refine tn 32 ?_
        try simp only [Act.put, aL1, aL2, aL3]
        refine tn 33 ?_
        try simp only [Act.put, aL1, aL2, aL3]
        refine skn 2 [(34, some 42), (35, some 43), (36, some 44), (37, some 45), (38, some 46), (39, some 47), (40, some 48), (41, some 49)] ?_
        simp only [List.foldl_cons, List.foldl_nil, Act.put, aL1, aL2, aL3]
        refine tn 42 ?_
        try simp only [Act.put, aL1, aL2, aL3]
        refine tn 43 ?_
        try simp only [Act.put, aL1, aL2, aL3]
        refine rdone (NoPanic.normal ?_)
        have HT : Hid (cMiddle (judgeV err room ps pubs) ⟨xo, xw, [c1, c2, c3, c4], xp⟩ = false) := Lib.hid (by show (decide (xo = 1) && (allB [c1] 0 && allB [c2, c3] 1 && allB [c4] 2 && disB (judgeV err room ps pubs) c1 c2 && disB (judgeV err room ps pubs) c3 c4)) = false; (try have h1 := H1.out); (try rw [HAL0.out]); (try rw [HAL1.out]); (try rw [HAL2.out]); (try rw [HD0v.out]); (try rw [HD1v.out]); simp [*])
        go_wp2_with fail
        go_ret
        exact retB_mk HT.out hHeld.below
    · have q1a : (xo == 1) = false := by rw [beq_eq_false_iff_ne]; exact h1
      have q1b : decide (xo = 1) = false := decide_eq_false h1
      have H1 := Lib.hid h1
      clear h1
      refine tn 2 ?_
      try simp only [Act.put, aL1, aL2, aL3]
      refine tn 3 ?_
      try simp only [Act.put, aL1, aL2, aL3]
      refine skn 37 [(4, some 12), (5, some 13), (6, some 14)] ?_
      simp only [List.foldl_cons, List.foldl_nil, Act.put, aL1, aL2, aL3]
      refine tn 7 ?_
      try simp only [Act.put, aL1, aL2, aL3]
      refine tn 8 ?_
      try simp only [Act.put, aL1, aL2, aL3]
      refine skn 32 [(9, some 17), (10, some 18), (11, some 19)] ?_
      simp only [List.foldl_cons, List.foldl_nil, Act.put, aL1, aL2, aL3]
      refine tn 12 ?_
      try simp only [Act.put, aL1, aL2, aL3]
      refine tn 13 ?_
      try simp only [Act.put, aL1, aL2, aL3]
      refine skn 27 [(14, some 22), (15, some 23), (16, some 24)] ?_
      simp only [List.foldl_cons, List.foldl_nil, Act.put, aL1, aL2, aL3]
      refine tn 17 ?_
      try simp only [Act.put, aL1, aL2, aL3]
      refine tn 18 ?_
      try simp only [Act.put, aL1, aL2, aL3]
      refine skn 22 [(19, some 27), (20, some 28), (21, some 29)] ?_
      simp only [List.foldl_cons, List.foldl_nil, Act.put, aL1, aL2, aL3]
      refine tn 22 ?_
      try simp only [Act.put, aL1, aL2, aL3]
      refine tn 23 ?_
      try simp only [Act.put, aL1, aL2, aL3]
      refine skn 12 [(24, some 32), (25, some 33), (26, some 34), (27, some 35), (28, some 36), (29, some 37), (30, some 38), (31, some 39)] ?_
      simp only [List.foldl_cons, List.foldl_nil, Act.put, aL1, aL2, aL3]
      refine tn 32 ?_
      try simp only [Act.put, aL1, aL2, aL3]
      refine tn 33 ?_
      try simp only [Act.put, aL1, aL2, aL3]
      refine skn 2 [(34, some 42), (35, some 43), (36, some 44), (37, some 45), (38, some 46), (39, some 47), (40, some 48), (41, some 49)] ?_
      simp only [List.foldl_cons, List.foldl_nil, Act.put, aL1, aL2, aL3]
      refine tn 42 ?_
      try simp only [Act.put, aL1, aL2, aL3]
      refine tn 43 ?_
      try simp only [Act.put, aL1, aL2, aL3]
      refine rdone (NoPanic.normal ?_)
      have HT : Hid (cMiddle (judgeV err room ps pubs) ⟨xo, xw, [c1, c2, c3, c4], xp⟩ = false) := Lib.hid (by show (decide (xo = 1) && (allB [c1] 0 && allB [c2, c3] 1 && allB [c4] 2 && disB (judgeV err room ps pubs) c1 c2 && disB (judgeV err room ps pubs) c3 c4)) = false; (try have h1 := H1.out); (try rw [HAL0.out]); (try rw [HAL1.out]); (try rw [HAL2.out]); (try rw [HD0v.out]); (try rw [HD1v.out]); simp [*])
      go_wp2_with fail
      go_ret
      exact retB_mk HT.out hHeld.below
  · have HT : Hid (cMiddle (judgeV err room ps pubs) ⟨xo, xw, xc, xp⟩ = false) := Lib.hid (by
      unfold cMiddle
      rcases xc with _ | ⟨c1, _ | ⟨c2, _ | ⟨c3, _ | ⟨c4, _ | ⟨c5, t⟩⟩⟩⟩⟩ <;> first | (simp at hlen; done) | simp)
    have q4a : ((xc.length : Int) == 4) = false := by rw [beq_eq_false_iff_ne]; omega
    have q4b : decide ((xc.length : Int) = 4) = false := decide_eq_false (by omega)
    clear hL hk hlen
    have HR := Lib.hid ((RowsS.nil w).alloc (.cells #[.int .i64 xo, .int .i64 xw, .slice al xc.length lc, .int .i64 xp.office, .int .i64 xp.since, .int .i64 xp.till, .int .i64 xp.litres, .int .i64 xp.e, .int .i64 xp.s] 40))
    go_enter Tryz.func66, Tryz.ntmps66
    go_upto_region 1 with fail
    generalize w.alloc (.cells #[.int .i64 xo, .int .i64 xw, .slice al xc.length lc, .int .i64 xp.office, .int .i64 xp.since, .int .i64 xp.till, .int .i64 xp.litres, .int .i64 xp.e, .int .i64 xp.s] 40) = w0 at *
    have x2 := HR.out.cell 0 2 rfl rfl
    go_upto_region 2 with fail
    clear x2
    refine wp_region_noPanic ?_
    refine wp_region_held_drew (S := fun cw => RowsS w [(w.heap.size, .cells #[.int .i64 xo, .int .i64 xw, .slice al xc.length lc, .int .i64 xp.office, .int .i64 xp.since, .int .i64 xp.till, .int .i64 xp.litres, .int .i64 xp.e, .int .i64 xp.s] 40)] cw) (by kernel_rfl) (HR.out.drew) (fun hHeld => ?_)
    refine tn 0 ?_
    try simp only [Act.put, aL1, aL2, aL3]
    refine tn 1 ?_ (hx := fun wz hSw => by have e4 := hSw.cell 0 0 rfl rfl; go_simp; try with_reducible rfl)
    try simp only [Act.put, aL1, aL2, aL3]
    by_cases h1 : xo = 1
    · have q1a : (xo == 1) = true := by rw [beq_iff_eq]; exact h1
      have q1b : decide (xo = 1) = true := decide_eq_true h1
      have H1 := Lib.hid h1
      clear h1
      refine tn 2 ?_
      try simp only [Act.put, aL1, aL2, aL3]
      refine tn 3 ?_
      try simp only [Act.put, aL1, aL2, aL3]
      refine tn 4 ?_
      try simp only [Act.put, aL1, aL2, aL3]
      refine tn 5 ?_
      try simp only [Act.put, aL1, aL2, aL3]
      refine tn 6 ?_
      try simp only [Act.put, aL1, aL2, aL3]
      refine tn 7 ?_
      try simp only [Act.put, aL1, aL2, aL3]
      refine tn 8 ?_
      try simp only [Act.put, aL1, aL2, aL3]
      refine skn 32 [(9, some 17), (10, some 18), (11, some 19)] ?_
      simp only [List.foldl_cons, List.foldl_nil, Act.put, aL1, aL2, aL3]
      refine tn 12 ?_
      try simp only [Act.put, aL1, aL2, aL3]
      refine tn 13 ?_
      try simp only [Act.put, aL1, aL2, aL3]
      refine skn 27 [(14, some 22), (15, some 23), (16, some 24)] ?_
      simp only [List.foldl_cons, List.foldl_nil, Act.put, aL1, aL2, aL3]
      refine tn 17 ?_
      try simp only [Act.put, aL1, aL2, aL3]
      refine tn 18 ?_
      try simp only [Act.put, aL1, aL2, aL3]
      refine skn 22 [(19, some 27), (20, some 28), (21, some 29)] ?_
      simp only [List.foldl_cons, List.foldl_nil, Act.put, aL1, aL2, aL3]
      refine tn 22 ?_
      try simp only [Act.put, aL1, aL2, aL3]
      refine tn 23 ?_
      try simp only [Act.put, aL1, aL2, aL3]
      refine skn 12 [(24, some 32), (25, some 33), (26, some 34), (27, some 35), (28, some 36), (29, some 37), (30, some 38), (31, some 39)] ?_
      simp only [List.foldl_cons, List.foldl_nil, Act.put, aL1, aL2, aL3]
      refine tn 32 ?_
      try simp only [Act.put, aL1, aL2, aL3]
      refine tn 33 ?_
      try simp only [Act.put, aL1, aL2, aL3]
      refine skn 2 [(34, some 42), (35, some 43), (36, some 44), (37, some 45), (38, some 46), (39, some 47), (40, some 48), (41, some 49)] ?_
      simp only [List.foldl_cons, List.foldl_nil, Act.put, aL1, aL2, aL3]
      refine tn 42 ?_
      try simp only [Act.put, aL1, aL2, aL3]
      refine tn 43 ?_
      try simp only [Act.put, aL1, aL2, aL3]
      refine rdone (NoPanic.normal ?_)
      go_wp2_with fail
      go_ret
      exact retB_mk HT.out hHeld.below
    · have q1a : (xo == 1) = false := by rw [beq_eq_false_iff_ne]; exact h1
      have q1b : decide (xo = 1) = false := decide_eq_false h1
      have H1 := Lib.hid h1
      clear h1
      refine tn 2 ?_
      try simp only [Act.put, aL1, aL2, aL3]
      refine tn 3 ?_
      try simp only [Act.put, aL1, aL2, aL3]
      refine skn 37 [(4, some 12), (5, some 13), (6, some 14)] ?_
      simp only [List.foldl_cons, List.foldl_nil, Act.put, aL1, aL2, aL3]
      refine tn 7 ?_
      try simp only [Act.put, aL1, aL2, aL3]
      refine tn 8 ?_
      try simp only [Act.put, aL1, aL2, aL3]
      refine skn 32 [(9, some 17), (10, some 18), (11, some 19)] ?_
      simp only [List.foldl_cons, List.foldl_nil, Act.put, aL1, aL2, aL3]
      refine tn 12 ?_
      try simp only [Act.put, aL1, aL2, aL3]
      refine tn 13 ?_
      try simp only [Act.put, aL1, aL2, aL3]
      refine skn 27 [(14, some 22), (15, some 23), (16, some 24)] ?_
      simp only [List.foldl_cons, List.foldl_nil, Act.put, aL1, aL2, aL3]
      refine tn 17 ?_
      try simp only [Act.put, aL1, aL2, aL3]
      refine tn 18 ?_
      try simp only [Act.put, aL1, aL2, aL3]
      refine skn 22 [(19, some 27), (20, some 28), (21, some 29)] ?_
      simp only [List.foldl_cons, List.foldl_nil, Act.put, aL1, aL2, aL3]
      refine tn 22 ?_
      try simp only [Act.put, aL1, aL2, aL3]
      refine tn 23 ?_
      try simp only [Act.put, aL1, aL2, aL3]
      refine skn 12 [(24, some 32), (25, some 33), (26, some 34), (27, some 35), (28, some 36), (29, some 37), (30, some 38), (31, some 39)] ?_
      simp only [List.foldl_cons, List.foldl_nil, Act.put, aL1, aL2, aL3]
      refine tn 32 ?_
      try simp only [Act.put, aL1, aL2, aL3]
      refine tn 33 ?_
      try simp only [Act.put, aL1, aL2, aL3]
      refine skn 2 [(34, some 42), (35, some 43), (36, some 44), (37, some 45), (38, some 46), (39, some 47), (40, some 48), (41, some 49)] ?_
      simp only [List.foldl_cons, List.foldl_nil, Act.put, aL1, aL2, aL3]
      refine tn 42 ?_
      try simp only [Act.put, aL1, aL2, aL3]
      refine tn 43 ?_
      try simp only [Act.put, aL1, aL2, aL3]
      refine rdone (NoPanic.normal ?_)
      go_wp2_with fail
      go_ret
      exact retB_mk HT.out hHeld.below
end Go.Proofs.YtjbjpkhibcnenaaGreatDoor

