/- audit.Check: isBalance, isMouth. -/
import Derived.Deep.DeepCutAuto
import Derived.Test.YtjbjpkhibcnenaaGreatDoorACheck
namespace Go.Proofs.YtjbjpkhibcnenaaGreatDoor
open Go.RowKit
theorem net_any2 (o : Int) (w : World) : Calls Tryz.prog 45 #[.int .i64 o] w fun e w' => ∃ ob, e = .returned (.func (.func 80) #[] #[.pointer (some ⟨ob, 0, none⟩)]) ∧ w'.heap[ob]? = some (.cells #[.int .i64 o] 3 (0, 0)) ∧ w.heap.size ≤ ob ∧ Below w.heap.size w w' := by
  refine (net_any o w).mono ?_
  rintro e w' ⟨rfl, rfl⟩
  exact ⟨_, rfl, heap_alloc_new _ _, Nat.le_refl _, (Below.refl _ _).alloc (Nat.le_refl _) _⟩
theorem betw_I {H : Int → Option PublicV} {pick : PublicV → SpanV} {a b : Int} {s : SpanV} (h : betwN H pick a b = some s) : SpI s := by
  unfold betwN at h
  split at h
  · exact sumN_bd h
  · cases h
set_option maxRecDepth 100000 in
set_option maxHeartbeats 8000000 in
theorem isMouth_any (jb mb : Nat) (ar ap : Option Addr) (cr cp : Nat) (err : Int) (room ps : List Int) (pubs : List PublicV) (xo xw : Int) (xc : List CV) (xp : PV) (al : Option Addr) (lc : Nat) (w : World) (hJ : JudgeAt jb mb ar ap cr cp err room ps pubs w) (hL : LArg RC 8 (.slice al xc.length lc) xc w) (hl : xc.length ≤ 1000) (hk : ∀ c ∈ xc, kB ps c = true) (hI : ∀ p ∈ pubs, PbI p) (hpl : pubs.length ≤ 1000) :
    Calls Tryz.prog 65 #[.pointer (some ⟨jb, 0, none⟩), .agg #[.int .i64 xo, .int .i64 xw, .slice al xc.length lc, .int .i64 xp.office, .int .i64 xp.since, .int .i64 xp.till, .int .i64 xp.litres, .int .i64 xp.e, .int .i64 xp.s]] w (RetB (cMouth (judgeV err room ps pubs) ⟨xo, xw, xc, xp⟩) w) := by
  have HJ := Lib.hid hJ.row
  have hjl := blk_lt hJ.row
  have HL := Lib.hid hL
  have HK := Lib.hid hk
  by_cases h9 : xo = 2
  · have q9a : (xo == 2) = true := by rw [beq_iff_eq]; exact h9
    have q9b : decide (xo = 2) = true := decide_eq_true h9
    have q9c : (xo != 2) = false := by rw [bne_eq_false_iff_eq]; exact h9
    have HO2 : Hid (decide (xo = 2) = true) := Lib.hid q9b
    clear h9
    by_cases hlen : xc.length = 2
    · obtain ⟨c, d, rfl⟩ : ∃ c d, xc = [c, d] := by
        rcases xc with _ | ⟨c1, _ | ⟨c2, _ | ⟨c3, _ | ⟨c4, _ | ⟨c5, t⟩⟩⟩⟩⟩ <;> first | (simp at hlen; done) | exact ⟨_, rfl⟩ | exact ⟨_, _, rfl⟩ | exact ⟨_, _, _, rfl⟩ | exact ⟨_, _, _, _, rfl⟩ | (simp at hlen; omega)
      obtain ⟨b, o, cs0, rfl, hbl, -, hr0, hc0, -⟩ := HL.out.at (j := 0) rfl
      unfold cellsC at hc0
      subst hc0
      have HC0 : Hid (w.rangeAt b o [.int .i64 c.office, .int .i64 c.hour, .int .i64 c.inn, .int .i64 c.out, .int .i64 c.store, .string c.prev, .int .i64 c.e, .int .i64 c.s]) := Lib.hid (by rw [Nat.zero_mul, Nat.add_zero] at hr0; exact hr0)
      obtain ⟨b', o', cs1, he1, -, -, hr1, hc1, -⟩ := HL.out.at (j := 1) rfl
      unfold cellsC at hc1
      subst hc1
      simp only [Option.some.injEq, Addr.mk.injEq, and_true] at he1
      obtain ⟨rfl, rfl⟩ := he1
      have HC1 : Hid (w.rangeAt b (o + 8) [.int .i64 d.office, .int .i64 d.hour, .int .i64 d.inn, .int .i64 d.out, .int .i64 d.store, .string d.prev, .int .i64 d.e, .int .i64 d.s]) := Lib.hid (by exact hr1)
      clear hr0 hr1
      obtain ⟨hnc, hoc, hhc, hic⟩ := kB_num (HK.out c (by simp))
      obtain ⟨hnd, hod, hhd, hid⟩ := kB_num (HK.out d (by simp))
      clear hL hk hlen
      dsimp only [List.length_cons, List.length_nil, Nat.zero_add, Nat.reduceAdd] at *
      have HR := Lib.hid ((RowsS.nil w).alloc (.cells #[.int .i64 xo, .int .i64 xw, .slice (some ⟨b, o, none⟩) 2 lc, .int .i64 xp.office, .int .i64 xp.since, .int .i64 xp.till, .int .i64 xp.litres, .int .i64 xp.e, .int .i64 xp.s] 40))
      go_enter Tryz.func65, Tryz.ntmps65
      go_upto_region 1 with fail
      generalize w.alloc (.cells #[.int .i64 xo, .int .i64 xw, .slice (some ⟨b, o, none⟩) 2 lc, .int .i64 xp.office, .int .i64 xp.since, .int .i64 xp.till, .int .i64 xp.litres, .int .i64 xp.e, .int .i64 xp.s] 40) = w0 at *
      have x0 := HR.out.cell 0 0 rfl rfl
      have x2 := HR.out.cell 0 2 rfl rfl
      cases hal : allB [c, d] 2 with
      | true =>
        have HAL : Hid (allB [c, d] 2 = true) := Lib.hid hal
        have HAv : Hid ((decide (([c, d] : List CV).length = 2) && allB [c, d] 2) = true) := Lib.hid (by rw [hal]; rfl)
        clear hal
        have HAll : Hid (∀ w0, Below w.heap.size w w0 → Calls Tryz.prog 92 #[.slice (some ⟨b, o, none⟩) 2 lc, .int .i64 2, .int .i64 2] w0 fun e w' => e = .returned (.bool true) ∧ Below w0.heap.size w0 w') := Lib.hid (fun w0 hb => by have h := all_any [c, d] _ 2 2 w0 (HL.out.below stays_RC hb) (by simp) (by decide); rw [HAv.out] at h; exact h)
        obtain ⟨hIc, hId⟩ : I64 c.hour ∧ I64 d.hour := ⟨⟨by omega, by omega⟩, ⟨by omega, by omega⟩⟩
        go_wp2_with fail
        refine (HAll.out _ HR.out.below).mono ?_
        rintro e w1 ⟨rfl, hb1⟩
        have HR2 := Lib.hid (HR.out.step hb1)
        clear hb1
        go_upto_region 3 with fail
        cases hbn : betwN (hoursF pubs) (mouthP) c.hour d.hour with
        | none =>
          have HBn : Hid (betwN (hoursF pubs) (mouthP) c.hour d.hour = none) := Lib.hid hbn
          have HBt : Hid (∀ (w0 : World) , Below w.heap.size w w0 → Calls Tryz.prog 93 #[.pointer (some ⟨jb, 0, none⟩), .agg #[.int .i64 c.office, .int .i64 c.hour, .int .i64 c.inn, .int .i64 c.out, .int .i64 c.store, .string c.prev, .int .i64 c.e, .int .i64 c.s], .agg #[.int .i64 d.office, .int .i64 d.hour, .int .i64 d.inn, .int .i64 d.out, .int .i64 d.store, .string d.prev, .int .i64 d.e, .int .i64 d.s], .func (.func 55) #[] #[]] w0 fun e w' => e = .returned (.tuple #[.agg #[.int .i64 0, .int .i64 0], .bool false]) ∧ Below w0.heap.size w0 w') := Lib.hid (fun w0 hb => by have h := betweenM_any jb mb ar ap cr cp err room ps pubs c d w0 (hJ.below hb) hIc hId hI hpl hhc hhd; rw [HBn.out] at h; exact h)
          clear hbn
          go_cut [5, 6] (fun s5 s6 wx => ∃ bT, s5 = .pointer (some ⟨bT, 0, none⟩) ∧ s6 = .bool false ∧ RowsS w [(bT, .cells #[.int .i64 0, .int .i64 0] 53), (w.heap.size, .cells #[.int .i64 xo, .int .i64 xw, .slice (some ⟨b, o, none⟩) 2 lc, .int .i64 xp.office, .int .i64 xp.since, .int .i64 xp.till, .int .i64 xp.litres, .int .i64 xp.e, .int .i64 xp.s] 40)] wx)
          case first =>
            refine wp_region_noPanic ?_
            refine wp_region_held_drew (S := fun cw => RowsS w [(w.heap.size, .cells #[.int .i64 xo, .int .i64 xw, .slice (some ⟨b, o, none⟩) 2 lc, .int .i64 xp.office, .int .i64 xp.since, .int .i64 xp.till, .int .i64 xp.litres, .int .i64 xp.e, .int .i64 xp.s] 40)] cw) (by kernel_rfl) (HR2.out.drew) (fun hHeld => ?_)
            refine tn 0 ?_
            try simp only [Act.put, aL1, aL2, aL3]
            refine tn 1 ?_
            try simp only [Act.put, aL1, aL2, aL3]
            refine tn 2 ?_ (hx := fun wz hSw => by have e4 := hSw.cell 0 2 rfl rfl; go_simp; try with_reducible rfl)
            try simp only [Act.put, aL1, aL2, aL3]
            refine tn 3 ?_
            try simp only [Act.put, aL1, aL2, aL3]
            refine tn 4 ?_ (hx := fun wz hSw => by refine exec_load_range 63 _ rfl _ _ ?_ _ _ (rangeAt_below HC0.out hSw.below hbl) undCm rfl infoCm; exact rfl)
            try simp only [Act.put, aL1, aL2, aL3]
            refine tn 5 ?_
            try simp only [Act.put, aL1, aL2, aL3]
            refine tn 6 ?_ (hx := fun wz hSw => by have e4 := hSw.cell 0 2 rfl rfl; go_simp; try with_reducible rfl)
            try simp only [Act.put, aL1, aL2, aL3]
            refine tn 7 ?_
            try simp only [Act.put, aL1, aL2, aL3]
            refine tn 8 ?_ (hx := fun wz hSw => by refine exec_load_range 63 _ rfl _ _ ?_ _ _ (rangeAt_below HC1.out hSw.below hbl) undCm rfl infoCm; exact rfl)
            try simp only [Act.put, aL1, aL2, aL3]
            refine rd2 9 13 (fun K hK => ?_) (fun K hK => ?_)
            · go_simp
              refine (HBt.out _ hHeld.below).mono ?_
              rintro e w' ⟨rfl, hb⟩
              refine hK.out _ _ (hHeld.step hb) (fun hHeld => ?_)
              clear hK K
              try simp only [Act.put, aL1, aL2, aL3]
              refine tn 10 ?_
              try simp only [Act.put, aL1, aL2, aL3]
              refine tn 11 ?_
              try simp only [Act.put, aL1, aL2, aL3]
              refine tn 12 ?_
              try simp only [Act.put, aL1, aL2, aL3]
              refine rd1 13 (fun K hK => ?_)
              go_simp
              obtain ⟨bT, hbe, hS1, hZT, hgT, hnT, hbA⟩ := hHeld.allocB (.cells #[.int .i64 0, .int .i64 0] 53)
              try simp only [World.alloc, Array.size_push] at hbe
              rw [← hbe]
              refine hK.out _ _ hS1 (fun hHeld => ?_)
              clear hK K hS1 hbe hbA
              try simp only [Act.put, aL1, aL2, aL3]
              refine rd1 14 (fun K hK => ?_)
              rw [if_pos (by rfl)]
              refine wp_store_row 53 _ _ rfl bT #[.int .i64 0, .int .i64 0] rfl rfl 53 #[.int .i64 0, .int .i64 0] hZT infoSp rfl (by simp [Value.oneCell']) ?_
              have hZT := setRow_heap _ _ _ #[.int .i64 0, .int .i64 0] _ _ hZT
              refine hK.out _ _ (hHeld.setOther hgT hnT _) (fun hHeld => ?_)
              clear hK K
              try simp only [Act.put]
              refine tn 15 ?_
              try simp only [Act.put, aL1, aL2, aL3]
              refine rdone (NoPanic.normal ?_)
              have HR4 := Lib.hid (hHeld.cons hZT hgT hnT)
              go_wp2_with fail
              go_meet
              exact ⟨bT, rfl, rfl, HR4.out⟩
            · go_simp
              obtain ⟨bT, hbe, hS1, hZT, hgT, hnT, hbA⟩ := hHeld.allocBD (.cells #[.int .i64 0, .int .i64 0] 53)
              try simp only [World.alloc, Array.size_push] at hbe
              rw [← hbe]
              refine hK.out _ _ hS1 (fun hHeld => ?_)
              clear hK K hS1 hbe hbA
              try simp only [Act.put, aL1, aL2, aL3]
              refine rd1 9 (fun K hK => ?_)
              go_simp
              refine (HBt.out _ hHeld.below).mono ?_
              rintro e w' ⟨rfl, hb⟩
              have hZT := (hb.block bT (blk_lt hZT)).trans hZT
              refine hK.out _ _ (hHeld.step hb) (fun hHeld => ?_)
              clear hK K
              try simp only [Act.put, aL1, aL2, aL3]
              refine tn 10 ?_
              try simp only [Act.put, aL1, aL2, aL3]
              refine tn 11 ?_
              try simp only [Act.put, aL1, aL2, aL3]
              refine tn 12 ?_
              try simp only [Act.put, aL1, aL2, aL3]
              refine rd1 14 (fun K hK => ?_)
              rw [if_pos (by rfl)]
              refine wp_store_row 53 _ _ rfl bT #[.int .i64 0, .int .i64 0] rfl rfl 53 #[.int .i64 0, .int .i64 0] hZT infoSp rfl (by simp [Value.oneCell']) ?_
              have hZT := setRow_heap _ _ _ #[.int .i64 0, .int .i64 0] _ _ hZT
              refine hK.out _ _ (hHeld.setOther hgT hnT _) (fun hHeld => ?_)
              clear hK K
              try simp only [Act.put]
              refine tn 15 ?_
              try simp only [Act.put, aL1, aL2, aL3]
              refine rdone (NoPanic.normal ?_)
              have HR4 := Lib.hid (hHeld.cons hZT hgT hnT)
              go_wp2_with fail
              go_meet
              exact ⟨bT, rfl, rfl, HR4.out⟩
          obtain ⟨bT, rfl, rfl, hR5⟩ := hcut
          have HR5 := Lib.hid hR5
          clear hR5
          go_upto_region 4 with fail
          refine wp_region_noPanic ?_
          refine wp_region_held_drew (S := fun cw => RowsS w [(bT, .cells #[.int .i64 0, .int .i64 0] 53), (w.heap.size, .cells #[.int .i64 xo, .int .i64 xw, .slice (some ⟨b, o, none⟩) 2 lc, .int .i64 xp.office, .int .i64 xp.since, .int .i64 xp.till, .int .i64 xp.litres, .int .i64 xp.e, .int .i64 xp.s] 40)] cw) (by kernel_rfl) (HR5.out.drew) (fun hHeld => ?_)
          refine tn 0 ?_
          try simp only [Act.put, aL1, aL2, aL3]
          refine tn 1 ?_
          try simp only [Act.put, aL1, aL2, aL3]
          refine skn 2 [(2, some 31), (3, some 32), (4, some 33), (5, some 34), (6, some 35), (7, some 36), (8, some 37), (9, some 38), (10, some 39), (11, some 40), (12, some 41)] ?_
          simp only [List.foldl_cons, List.foldl_nil, Act.put, aL1, aL2, aL3]
          refine tn 13 ?_
          try simp only [Act.put, aL1, aL2, aL3]
          refine tn 14 ?_
          try simp only [Act.put, aL1, aL2, aL3]
          refine rdone (NoPanic.normal ?_)
          have HT : Hid (cMouth (judgeV err room ps pubs) ⟨xo, xw, [c, d], xp⟩ = false) := Lib.hid (by show (decide (xo = 2) && (allB [c, d] 2 && mouB (judgeV err room ps pubs) c d)) = false; rw [HO2.out, HAL.out, Bool.true_and, Bool.true_and]; unfold mouB laterB judgeV; dsimp only; rw [HBn.out])
          go_wp2_with fail
          go_ret
          exact retB_mk HT.out hHeld.below
        | some s =>
          have HBn : Hid (betwN (hoursF pubs) (mouthP) c.hour d.hour = some s) := Lib.hid hbn
          have HBt : Hid (∀ (w0 : World) , Below w.heap.size w w0 → Calls Tryz.prog 93 #[.pointer (some ⟨jb, 0, none⟩), .agg #[.int .i64 c.office, .int .i64 c.hour, .int .i64 c.inn, .int .i64 c.out, .int .i64 c.store, .string c.prev, .int .i64 c.e, .int .i64 c.s], .agg #[.int .i64 d.office, .int .i64 d.hour, .int .i64 d.inn, .int .i64 d.out, .int .i64 d.store, .string d.prev, .int .i64 d.e, .int .i64 d.s], .func (.func 55) #[] #[]] w0 fun e w' => e = .returned (.tuple #[.agg #[.int .i64 s.lo, .int .i64 s.hi], .bool true]) ∧ Below w0.heap.size w0 w') := Lib.hid (fun w0 hb => by have h := betweenM_any jb mb ar ap cr cp err room ps pubs c d w0 (hJ.below hb) hIc hId hI hpl hhc hhd; rw [HBn.out] at h; exact h)
          clear hbn
          go_cut [5, 6] (fun s5 s6 wx => ∃ bT, s5 = .pointer (some ⟨bT, 0, none⟩) ∧ s6 = .bool true ∧ RowsS w [(bT, .cells #[.int .i64 s.lo, .int .i64 s.hi] 53), (w.heap.size, .cells #[.int .i64 xo, .int .i64 xw, .slice (some ⟨b, o, none⟩) 2 lc, .int .i64 xp.office, .int .i64 xp.since, .int .i64 xp.till, .int .i64 xp.litres, .int .i64 xp.e, .int .i64 xp.s] 40)] wx)
          case first =>
            refine wp_region_noPanic ?_
            refine wp_region_held_drew (S := fun cw => RowsS w [(w.heap.size, .cells #[.int .i64 xo, .int .i64 xw, .slice (some ⟨b, o, none⟩) 2 lc, .int .i64 xp.office, .int .i64 xp.since, .int .i64 xp.till, .int .i64 xp.litres, .int .i64 xp.e, .int .i64 xp.s] 40)] cw) (by kernel_rfl) (HR2.out.drew) (fun hHeld => ?_)
            refine tn 0 ?_
            try simp only [Act.put, aL1, aL2, aL3]
            refine tn 1 ?_
            try simp only [Act.put, aL1, aL2, aL3]
            refine tn 2 ?_ (hx := fun wz hSw => by have e4 := hSw.cell 0 2 rfl rfl; go_simp; try with_reducible rfl)
            try simp only [Act.put, aL1, aL2, aL3]
            refine tn 3 ?_
            try simp only [Act.put, aL1, aL2, aL3]
            refine tn 4 ?_ (hx := fun wz hSw => by refine exec_load_range 63 _ rfl _ _ ?_ _ _ (rangeAt_below HC0.out hSw.below hbl) undCm rfl infoCm; exact rfl)
            try simp only [Act.put, aL1, aL2, aL3]
            refine tn 5 ?_
            try simp only [Act.put, aL1, aL2, aL3]
            refine tn 6 ?_ (hx := fun wz hSw => by have e4 := hSw.cell 0 2 rfl rfl; go_simp; try with_reducible rfl)
            try simp only [Act.put, aL1, aL2, aL3]
            refine tn 7 ?_
            try simp only [Act.put, aL1, aL2, aL3]
            refine tn 8 ?_ (hx := fun wz hSw => by refine exec_load_range 63 _ rfl _ _ ?_ _ _ (rangeAt_below HC1.out hSw.below hbl) undCm rfl infoCm; exact rfl)
            try simp only [Act.put, aL1, aL2, aL3]
            refine rd2 9 13 (fun K hK => ?_) (fun K hK => ?_)
            · go_simp
              refine (HBt.out _ hHeld.below).mono ?_
              rintro e w' ⟨rfl, hb⟩
              refine hK.out _ _ (hHeld.step hb) (fun hHeld => ?_)
              clear hK K
              try simp only [Act.put, aL1, aL2, aL3]
              refine tn 10 ?_
              try simp only [Act.put, aL1, aL2, aL3]
              refine tn 11 ?_
              try simp only [Act.put, aL1, aL2, aL3]
              refine tn 12 ?_
              try simp only [Act.put, aL1, aL2, aL3]
              refine rd1 13 (fun K hK => ?_)
              go_simp
              obtain ⟨bT, hbe, hS1, hZT, hgT, hnT, hbA⟩ := hHeld.allocB (.cells #[.int .i64 0, .int .i64 0] 53)
              try simp only [World.alloc, Array.size_push] at hbe
              rw [← hbe]
              refine hK.out _ _ hS1 (fun hHeld => ?_)
              clear hK K hS1 hbe hbA
              try simp only [Act.put, aL1, aL2, aL3]
              refine rd1 14 (fun K hK => ?_)
              rw [if_pos (by rfl)]
              refine wp_store_row 53 _ _ rfl bT #[.int .i64 s.lo, .int .i64 s.hi] rfl rfl 53 #[.int .i64 0, .int .i64 0] hZT infoSp rfl (by simp [Value.oneCell']) ?_
              have hZT := setRow_heap _ _ _ #[.int .i64 s.lo, .int .i64 s.hi] _ _ hZT
              refine hK.out _ _ (hHeld.setOther hgT hnT _) (fun hHeld => ?_)
              clear hK K
              try simp only [Act.put]
              refine tn 15 ?_
              try simp only [Act.put, aL1, aL2, aL3]
              refine rdone (NoPanic.normal ?_)
              have HR4 := Lib.hid (hHeld.cons hZT hgT hnT)
              go_wp2_with fail
              go_meet
              exact ⟨bT, rfl, rfl, HR4.out⟩
            · go_simp
              obtain ⟨bT, hbe, hS1, hZT, hgT, hnT, hbA⟩ := hHeld.allocBD (.cells #[.int .i64 0, .int .i64 0] 53)
              try simp only [World.alloc, Array.size_push] at hbe
              rw [← hbe]
              refine hK.out _ _ hS1 (fun hHeld => ?_)
              clear hK K hS1 hbe hbA
              try simp only [Act.put, aL1, aL2, aL3]
              refine rd1 9 (fun K hK => ?_)
              go_simp
              refine (HBt.out _ hHeld.below).mono ?_
              rintro e w' ⟨rfl, hb⟩
              have hZT := (hb.block bT (blk_lt hZT)).trans hZT
              refine hK.out _ _ (hHeld.step hb) (fun hHeld => ?_)
              clear hK K
              try simp only [Act.put, aL1, aL2, aL3]
              refine tn 10 ?_
              try simp only [Act.put, aL1, aL2, aL3]
              refine tn 11 ?_
              try simp only [Act.put, aL1, aL2, aL3]
              refine tn 12 ?_
              try simp only [Act.put, aL1, aL2, aL3]
              refine rd1 14 (fun K hK => ?_)
              rw [if_pos (by rfl)]
              refine wp_store_row 53 _ _ rfl bT #[.int .i64 s.lo, .int .i64 s.hi] rfl rfl 53 #[.int .i64 0, .int .i64 0] hZT infoSp rfl (by simp [Value.oneCell']) ?_
              have hZT := setRow_heap _ _ _ #[.int .i64 s.lo, .int .i64 s.hi] _ _ hZT
              refine hK.out _ _ (hHeld.setOther hgT hnT _) (fun hHeld => ?_)
              clear hK K
              try simp only [Act.put]
              refine tn 15 ?_
              try simp only [Act.put, aL1, aL2, aL3]
              refine rdone (NoPanic.normal ?_)
              have HR4 := Lib.hid (hHeld.cons hZT hgT hnT)
              go_wp2_with fail
              go_meet
              exact ⟨bT, rfl, rfl, HR4.out⟩
          obtain ⟨bT, rfl, rfl, hR5⟩ := hcut
          have HR5 := Lib.hid hR5
          clear hR5
          have hsI : SpI s := betw_I HBn.out
          go_upto_region 4 with fail
          refine wp_region_noPanic ?_
          refine wp_region_held_drew (S := fun cw => RowsS w [(bT, .cells #[.int .i64 s.lo, .int .i64 s.hi] 53), (w.heap.size, .cells #[.int .i64 xo, .int .i64 xw, .slice (some ⟨b, o, none⟩) 2 lc, .int .i64 xp.office, .int .i64 xp.since, .int .i64 xp.till, .int .i64 xp.litres, .int .i64 xp.e, .int .i64 xp.s] 40)] cw) (by kernel_rfl) (HR5.out.drew) (fun hHeld => ?_)
          refine tn 0 ?_
          try simp only [Act.put, aL1, aL2, aL3]
          refine tn 1 ?_
          try simp only [Act.put, aL1, aL2, aL3]
          refine tn 2 ?_
          try simp only [Act.put, aL1, aL2, aL3]
          refine tn 3 ?_
          try simp only [Act.put, aL1, aL2, aL3]
          refine tn 4 ?_ (hx := fun wz hSw => by have e4 := hSw.cell 1 2 rfl rfl; go_simp; try with_reducible rfl)
          try simp only [Act.put, aL1, aL2, aL3]
          refine tn 5 ?_
          try simp only [Act.put, aL1, aL2, aL3]
          refine tn 6 ?_ (hx := fun wz hSw => by refine exec_load_range 63 _ rfl _ _ ?_ _ _ (rangeAt_below HC0.out hSw.below hbl) undCm rfl infoCm; exact rfl)
          try simp only [Act.put, aL1, aL2, aL3]
          refine tn 7 ?_
          try simp only [Act.put, aL1, aL2, aL3]
          refine tn 8 ?_ (hx := fun wz hSw => by have e4 := hSw.cell 1 2 rfl rfl; go_simp; try with_reducible rfl)
          try simp only [Act.put, aL1, aL2, aL3]
          refine tn 9 ?_
          try simp only [Act.put, aL1, aL2, aL3]
          refine tn 10 ?_ (hx := fun wz hSw => by refine exec_load_range 63 _ rfl _ _ ?_ _ _ (rangeAt_below HC1.out hSw.below hbl) undCm rfl infoCm; exact rfl)
          try simp only [Act.put, aL1, aL2, aL3]
          refine tn 11 ?_ (hx := fun wz hSw => by refine exec_load_row 53 ?_ ?_ _ ?_ 53 _ _ _ (hSw.row 0 rfl) undSp rfl infoSp; rotate_left 1; exact rfl; exact rfl)
          try simp only [Act.put, aL1, aL2, aL3]
          cases huv : contrB err c d s with
          | true =>
            have HUv : Hid (contrB err c d s = true) := Lib.hid huv
            have HUn : Hid (∀ w0, Below w.heap.size w w0 → Calls Tryz.prog 56 #[.pointer (some ⟨jb, 0, none⟩), .agg #[.int .i64 c.office, .int .i64 c.hour, .int .i64 c.inn, .int .i64 c.out, .int .i64 c.store, .string c.prev, .int .i64 c.e, .int .i64 c.s], .agg #[.int .i64 d.office, .int .i64 d.hour, .int .i64 d.inn, .int .i64 d.out, .int .i64 d.store, .string d.prev, .int .i64 d.e, .int .i64 d.s], .agg #[.int .i64 s.lo, .int .i64 s.hi]] w0 fun e w' => e = .returned (.bool true) ∧ Below w0.heap.size w0 w') := Lib.hid (fun w0 hb => by have h := contradicts_any jb mb ar ap cr cp err room ps pubs c d s w0 (hJ.below hb) hnc hnd hsI; rw [huv] at h; exact h)
            clear huv
            refine rd1 12 (fun K hK => ?_)
            go_simp
            refine (HUn.out _ hHeld.below).mono ?_
            rintro e w' ⟨rfl, hb⟩
            refine hK.out _ _ (hHeld.step hb) (fun hHeld => ?_)
            clear hK K
            try simp only [Act.put, aL1, aL2, aL3]
            refine tn 13 ?_
            try simp only [Act.put, aL1, aL2, aL3]
            refine tn 14 ?_
            try simp only [Act.put, aL1, aL2, aL3]
            refine rdone (NoPanic.normal ?_)
            have HT : Hid (cMouth (judgeV err room ps pubs) ⟨xo, xw, [c, d], xp⟩ = true) := Lib.hid (by show (decide (xo = 2) && (allB [c, d] 2 && mouB (judgeV err room ps pubs) c d)) = true; rw [HO2.out, HAL.out, Bool.true_and, Bool.true_and]; unfold mouB laterB judgeV; dsimp only; rw [HBn.out]; exact HUv.out)
            go_wp2_with fail
            go_ret
            exact retB_mk HT.out hHeld.below
          | false =>
            have HUv : Hid (contrB err c d s = false) := Lib.hid huv
            have HUn : Hid (∀ w0, Below w.heap.size w w0 → Calls Tryz.prog 56 #[.pointer (some ⟨jb, 0, none⟩), .agg #[.int .i64 c.office, .int .i64 c.hour, .int .i64 c.inn, .int .i64 c.out, .int .i64 c.store, .string c.prev, .int .i64 c.e, .int .i64 c.s], .agg #[.int .i64 d.office, .int .i64 d.hour, .int .i64 d.inn, .int .i64 d.out, .int .i64 d.store, .string d.prev, .int .i64 d.e, .int .i64 d.s], .agg #[.int .i64 s.lo, .int .i64 s.hi]] w0 fun e w' => e = .returned (.bool false) ∧ Below w0.heap.size w0 w') := Lib.hid (fun w0 hb => by have h := contradicts_any jb mb ar ap cr cp err room ps pubs c d s w0 (hJ.below hb) hnc hnd hsI; rw [huv] at h; exact h)
            clear huv
            refine rd1 12 (fun K hK => ?_)
            go_simp
            refine (HUn.out _ hHeld.below).mono ?_
            rintro e w' ⟨rfl, hb⟩
            refine hK.out _ _ (hHeld.step hb) (fun hHeld => ?_)
            clear hK K
            try simp only [Act.put, aL1, aL2, aL3]
            refine tn 13 ?_
            try simp only [Act.put, aL1, aL2, aL3]
            refine tn 14 ?_
            try simp only [Act.put, aL1, aL2, aL3]
            refine rdone (NoPanic.normal ?_)
            have HT : Hid (cMouth (judgeV err room ps pubs) ⟨xo, xw, [c, d], xp⟩ = false) := Lib.hid (by show (decide (xo = 2) && (allB [c, d] 2 && mouB (judgeV err room ps pubs) c d)) = false; rw [HO2.out, HAL.out, Bool.true_and, Bool.true_and]; unfold mouB laterB judgeV; dsimp only; rw [HBn.out]; exact HUv.out)
            go_wp2_with fail
            go_ret
            exact retB_mk HT.out hHeld.below
      | false =>
        have HAL : Hid (allB [c, d] 2 = false) := Lib.hid hal
        have HAv : Hid ((decide (([c, d] : List CV).length = 2) && allB [c, d] 2) = false) := Lib.hid (by rw [hal]; rfl)
        clear hal
        have HAll : Hid (∀ w0, Below w.heap.size w w0 → Calls Tryz.prog 92 #[.slice (some ⟨b, o, none⟩) 2 lc, .int .i64 2, .int .i64 2] w0 fun e w' => e = .returned (.bool false) ∧ Below w0.heap.size w0 w') := Lib.hid (fun w0 hb => by have h := all_any [c, d] _ 2 2 w0 (HL.out.below stays_RC hb) (by simp) (by decide); rw [HAv.out] at h; exact h)
        have HT : Hid (cMouth (judgeV err room ps pubs) ⟨xo, xw, [c, d], xp⟩ = false) := Lib.hid (by show (decide (xo = 2) && (allB [c, d] 2 && _)) = false; rw [HAL.out]; simp)
        go_wp2_with fail
        refine (HAll.out _ HR.out.below).mono ?_
        rintro e w1 ⟨rfl, hb1⟩
        have HR2 := Lib.hid (HR.out.step hb1)
        clear hb1
        go_wp2_with fail
        go_ret
        exact retB_mk HT.out HR2.out.below
    · have HT : Hid (cMouth (judgeV err room ps pubs) ⟨xo, xw, xc, xp⟩ = false) := Lib.hid (by
        unfold cMouth
        rcases xc with _ | ⟨c1, _ | ⟨c2, _ | ⟨c3, t⟩⟩⟩ <;> first | (simp at hlen; done) | (simp; done) | rfl)
      have HAv : Hid ((decide (xc.length = 2) && allB xc 2) = false) := Lib.hid (by rw [decide_eq_false hlen]; rfl)
      have HAll : Hid (∀ w0, Below w.heap.size w w0 → Calls Tryz.prog 92 #[.slice al xc.length lc, .int .i64 2, .int .i64 2] w0 fun e w' => e = .returned (.bool false) ∧ Below w0.heap.size w0 w') := Lib.hid (fun w0 hb => by have h := all_any xc _ 2 2 w0 (HL.out.below stays_RC hb) hl (by decide); rw [HAv.out] at h; exact h)
      clear hL hk hlen
      have HR := Lib.hid ((RowsS.nil w).alloc (.cells #[.int .i64 xo, .int .i64 xw, .slice al xc.length lc, .int .i64 xp.office, .int .i64 xp.since, .int .i64 xp.till, .int .i64 xp.litres, .int .i64 xp.e, .int .i64 xp.s] 40))
      go_enter Tryz.func65, Tryz.ntmps65
      go_upto_region 1 with fail
      generalize w.alloc (.cells #[.int .i64 xo, .int .i64 xw, .slice al xc.length lc, .int .i64 xp.office, .int .i64 xp.since, .int .i64 xp.till, .int .i64 xp.litres, .int .i64 xp.e, .int .i64 xp.s] 40) = w0 at *
      have x0 := HR.out.cell 0 0 rfl rfl
      have x2 := HR.out.cell 0 2 rfl rfl
      go_wp2_with fail
      refine (HAll.out _ HR.out.below).mono ?_
      rintro e w1 ⟨rfl, hb1⟩
      have HR1 := Lib.hid (HR.out.step hb1)
      clear hb1
      go_wp2_with fail
      go_ret
      exact retB_mk HT.out HR1.out.below
  · have q9a : (xo == 2) = false := by rw [beq_eq_false_iff_ne]; exact h9
    have q9c : (xo != 2) = true := by rw [bne_iff_ne]; exact h9
    have HT : Hid (cMouth (judgeV err room ps pubs) ⟨xo, xw, xc, xp⟩ = false) := Lib.hid (by unfold cMouth; dsimp only; rw [decide_eq_false h9, Bool.false_and])
    clear h9 hL hk
    have HR := Lib.hid ((RowsS.nil w).alloc (.cells #[.int .i64 xo, .int .i64 xw, .slice al xc.length lc, .int .i64 xp.office, .int .i64 xp.since, .int .i64 xp.till, .int .i64 xp.litres, .int .i64 xp.e, .int .i64 xp.s] 40))
    go_enter Tryz.func65, Tryz.ntmps65
    go_upto_region 1 with fail
    generalize w.alloc (.cells #[.int .i64 xo, .int .i64 xw, .slice al xc.length lc, .int .i64 xp.office, .int .i64 xp.since, .int .i64 xp.till, .int .i64 xp.litres, .int .i64 xp.e, .int .i64 xp.s] 40) = w0 at *
    have x0 := HR.out.cell 0 0 rfl rfl
    have x2 := HR.out.cell 0 2 rfl rfl
    go_wp2_with fail
    go_ret
    exact retB_mk HT.out HR.out.below
set_option maxRecDepth 100000 in
set_option maxHeartbeats 8000000 in
theorem isBalance_any (jb mb : Nat) (ar ap : Option Addr) (cr cp : Nat) (err : Int) (room ps : List Int) (pubs : List PublicV) (xo xw : Int) (xc : List CV) (xp : PV) (al : Option Addr) (lc : Nat) (w : World) (hJ : JudgeAt jb mb ar ap cr cp err room ps pubs w) (hL : LArg RC 8 (.slice al xc.length lc) xc w) (hl : xc.length ≤ 1000) (hk : ∀ c ∈ xc, kB ps c = true) (hI : ∀ p ∈ pubs, PbI p) (hpl : pubs.length ≤ 1000) (hxo : 0 ≤ xo ∧ xo < 3) :
    Calls Tryz.prog 63 #[.pointer (some ⟨jb, 0, none⟩), .agg #[.int .i64 xo, .int .i64 xw, .slice al xc.length lc, .int .i64 xp.office, .int .i64 xp.since, .int .i64 xp.till, .int .i64 xp.litres, .int .i64 xp.e, .int .i64 xp.s]] w (RetB (cBal (judgeV err room ps pubs) ⟨xo, xw, xc, xp⟩) w) := by
  have HJ := Lib.hid hJ.row
  have hjl := blk_lt hJ.row
  have HL := Lib.hid hL
  have HK := Lib.hid hk
  obtain ⟨j, rfl⟩ : ∃ j : Nat, xo = (j : Int) := ⟨xo.toNat, by omega⟩
  have hj3 : j < 3 := by omega
  by_cases hlen : xc.length = 2
  · obtain ⟨c, d, rfl⟩ : ∃ c d, xc = [c, d] := by
      rcases xc with _ | ⟨c1, _ | ⟨c2, _ | ⟨c3, _ | ⟨c4, _ | ⟨c5, t⟩⟩⟩⟩⟩ <;> first | (simp at hlen; done) | exact ⟨_, rfl⟩ | exact ⟨_, _, rfl⟩ | exact ⟨_, _, _, rfl⟩ | exact ⟨_, _, _, _, rfl⟩ | (simp at hlen; omega)
    obtain ⟨b, o, cs0, rfl, hbl, -, hr0, hc0, -⟩ := HL.out.at (j := 0) rfl
    unfold cellsC at hc0
    subst hc0
    have HC0 : Hid (w.rangeAt b o [.int .i64 c.office, .int .i64 c.hour, .int .i64 c.inn, .int .i64 c.out, .int .i64 c.store, .string c.prev, .int .i64 c.e, .int .i64 c.s]) := Lib.hid (by rw [Nat.zero_mul, Nat.add_zero] at hr0; exact hr0)
    obtain ⟨b', o', cs1, he1, -, -, hr1, hc1, -⟩ := HL.out.at (j := 1) rfl
    unfold cellsC at hc1
    subst hc1
    simp only [Option.some.injEq, Addr.mk.injEq, and_true] at he1
    obtain ⟨rfl, rfl⟩ := he1
    have HC1 : Hid (w.rangeAt b (o + 8) [.int .i64 d.office, .int .i64 d.hour, .int .i64 d.inn, .int .i64 d.out, .int .i64 d.store, .string d.prev, .int .i64 d.e, .int .i64 d.s]) := Lib.hid (by exact hr1)
    clear hr0 hr1
    obtain ⟨hnc, hoc, hhc, hic⟩ := kB_num (HK.out c (by simp))
    obtain ⟨hnd, hod, hhd, hid⟩ := kB_num (HK.out d (by simp))
    clear hL hk hlen
    dsimp only [List.length_cons, List.length_nil, Nat.zero_add, Nat.reduceAdd] at *
    have HR := Lib.hid ((RowsS.nil w).alloc (.cells #[.int .i64 (j : Int), .int .i64 xw, .slice (some ⟨b, o, none⟩) 2 lc, .int .i64 xp.office, .int .i64 xp.since, .int .i64 xp.till, .int .i64 xp.litres, .int .i64 xp.e, .int .i64 xp.s] 40))
    go_enter Tryz.func63, Tryz.ntmps63
    go_upto_region 1 with fail
    generalize w.alloc (.cells #[.int .i64 (j : Int), .int .i64 xw, .slice (some ⟨b, o, none⟩) 2 lc, .int .i64 xp.office, .int .i64 xp.since, .int .i64 xp.till, .int .i64 xp.litres, .int .i64 xp.e, .int .i64 xp.s] 40) = w0 at *
    have x0 := HR.out.cell 0 0 rfl rfl
    have x2 := HR.out.cell 0 2 rfl rfl
    cases hal : allB [c, d] (j : Int) with
    | true =>
      have HAL : Hid (allB [c, d] (j : Int) = true) := Lib.hid hal
      have HAv : Hid ((decide (([c, d] : List CV).length = 2) && allB [c, d] (j : Int)) = true) := Lib.hid (by rw [hal]; rfl)
      clear hal
      have HAll : Hid (∀ w0, Below w.heap.size w w0 → Calls Tryz.prog 92 #[.slice (some ⟨b, o, none⟩) 2 lc, .int .i64 2, .int .i64 (j : Int)] w0 fun e w' => e = .returned (.bool true) ∧ Below w0.heap.size w0 w') := Lib.hid (fun w0 hb => by have h := all_any [c, d] _ 2 (j : Int) w0 (HL.out.below stays_RC hb) (by simp) (by decide); rw [HAv.out] at h; exact h)
      obtain ⟨hIc, hId⟩ : I64 c.hour ∧ I64 d.hour := ⟨⟨by omega, by omega⟩, ⟨by omega, by omega⟩⟩
      go_wp2_with fail
      refine (HAll.out _ HR.out.below).mono ?_
      rintro e w1 ⟨rfl, hb1⟩
      have HR2 := Lib.hid (HR.out.step hb1)
      clear hb1
      go_upto_region 3 with fail
      cases hbn : betwN (hoursF pubs) (netP j) c.hour d.hour with
      | none =>
        have HBn : Hid (betwN (hoursF pubs) (netP j) c.hour d.hour = none) := Lib.hid hbn
        have HBt : Hid (∀ (w0 : World) (ob : Nat), Below w.heap.size w w0 → w0.cell? ⟨ob, 0, none⟩ = some (.int .i64 (j : Int)) → ob < w0.heap.size → Calls Tryz.prog 93 #[.pointer (some ⟨jb, 0, none⟩), .agg #[.int .i64 c.office, .int .i64 c.hour, .int .i64 c.inn, .int .i64 c.out, .int .i64 c.store, .string c.prev, .int .i64 c.e, .int .i64 c.s], .agg #[.int .i64 d.office, .int .i64 d.hour, .int .i64 d.inn, .int .i64 d.out, .int .i64 d.store, .string d.prev, .int .i64 d.e, .int .i64 d.s], .func (.func 80) #[] #[.pointer (some ⟨ob, 0, none⟩)]] w0 fun e w' => e = .returned (.tuple #[.agg #[.int .i64 0, .int .i64 0], .bool false]) ∧ Below w0.heap.size w0 w') := Lib.hid (fun w0 ob hb ho1 ho2 => by have h := betweenN_any jb mb ar ap cr cp err room ps pubs c d j ob w0 (hJ.below hb) hIc hId hI hpl hhc hhd hj3 ho1 ho2; rw [HBn.out] at h; exact h)
        clear hbn
        go_cut [5, 6] (fun s5 s6 wx => ∃ bT, s5 = .pointer (some ⟨bT, 0, none⟩) ∧ s6 = .bool false ∧ RowsS w [(bT, .cells #[.int .i64 0, .int .i64 0] 53), (w.heap.size, .cells #[.int .i64 (j : Int), .int .i64 xw, .slice (some ⟨b, o, none⟩) 2 lc, .int .i64 xp.office, .int .i64 xp.since, .int .i64 xp.till, .int .i64 xp.litres, .int .i64 xp.e, .int .i64 xp.s] 40)] wx)
        case first =>
          refine wp_region_noPanic ?_
          refine wp_region_held_drew (S := fun cw => RowsS w [(w.heap.size, .cells #[.int .i64 (j : Int), .int .i64 xw, .slice (some ⟨b, o, none⟩) 2 lc, .int .i64 xp.office, .int .i64 xp.since, .int .i64 xp.till, .int .i64 xp.litres, .int .i64 xp.e, .int .i64 xp.s] 40)] cw) (by kernel_rfl) (HR2.out.drew) (fun hHeld => ?_)
          refine tn 0 ?_
          try simp only [Act.put, aL1, aL2, aL3]
          refine tn 1 ?_
          try simp only [Act.put, aL1, aL2, aL3]
          refine tn 2 ?_ (hx := fun wz hSw => by have e4 := hSw.cell 0 2 rfl rfl; go_simp; try with_reducible rfl)
          try simp only [Act.put, aL1, aL2, aL3]
          refine tn 3 ?_
          try simp only [Act.put, aL1, aL2, aL3]
          refine tn 4 ?_ (hx := fun wz hSw => by refine exec_load_range 63 _ rfl _ _ ?_ _ _ (rangeAt_below HC0.out hSw.below hbl) undCm rfl infoCm; exact rfl)
          try simp only [Act.put, aL1, aL2, aL3]
          refine tn 5 ?_
          try simp only [Act.put, aL1, aL2, aL3]
          refine tn 6 ?_ (hx := fun wz hSw => by have e4 := hSw.cell 0 2 rfl rfl; go_simp; try with_reducible rfl)
          try simp only [Act.put, aL1, aL2, aL3]
          refine tn 7 ?_
          try simp only [Act.put, aL1, aL2, aL3]
          refine tn 8 ?_ (hx := fun wz hSw => by refine exec_load_range 63 _ rfl _ _ ?_ _ _ (rangeAt_below HC1.out hSw.below hbl) undCm rfl infoCm; exact rfl)
          try simp only [Act.put, aL1, aL2, aL3]
          refine tn 9 ?_
          try simp only [Act.put, aL1, aL2, aL3]
          refine tn 10 ?_ (hx := fun wz hSw => by have e4 := hSw.cell 0 0 rfl rfl; go_simp; try with_reducible rfl)
          try simp only [Act.put, aL1, aL2, aL3]
          refine rd2 11 16 (fun K hK => ?_) (fun K hK => ?_)
          · go_simp
            refine (net_any2 (j : Int) _).mono ?_
            rintro e w' ⟨ob, rfl, hZO, hgeO, hb⟩
            obtain ⟨hgO, hnO⟩ := hHeld.fresh hgeO
            clear hgeO
            refine hK.out _ _ (hHeld.step hb) (fun hHeld => ?_)
            clear hK K
            try simp only [Act.put, aL1, aL2, aL3]
            refine rd2 12 16 (fun K hK => ?_) (fun K hK => ?_)
            · go_simp
              refine (HBt.out _ ob hHeld.below (rowN hZO 0 (.int .i64 (j : Int)) rfl) (blk_lt hZO)).mono ?_
              rintro e w' ⟨rfl, hb⟩
              have hZO := (hb.block ob (blk_lt hZO)).trans hZO
              refine hK.out _ _ (hHeld.step hb) (fun hHeld => ?_)
              clear hK K
              try simp only [Act.put, aL1, aL2, aL3]
              refine tn 13 ?_
              try simp only [Act.put, aL1, aL2, aL3]
              refine tn 14 ?_
              try simp only [Act.put, aL1, aL2, aL3]
              refine tn 15 ?_
              try simp only [Act.put, aL1, aL2, aL3]
              refine rd1 16 (fun K hK => ?_)
              go_simp
              obtain ⟨bT, hbe, hS1, hZT, hgT, hnT, hbA⟩ := hHeld.allocB (.cells #[.int .i64 0, .int .i64 0] 53)
              have hxOT : ob ≠ bT := by rw [hbe]; exact Nat.ne_of_lt (blk_lt hZO)
              have hZO := (hbA.block ob (blk_lt hZO)).trans hZO
              try simp only [World.alloc, Array.size_push] at hbe
              rw [← hbe]
              refine hK.out _ _ hS1 (fun hHeld => ?_)
              clear hK K hS1 hbe hbA
              try simp only [Act.put, aL1, aL2, aL3]
              refine rd1 17 (fun K hK => ?_)
              rw [if_pos (by rfl)]
              refine wp_store_row 53 _ _ rfl bT #[.int .i64 0, .int .i64 0] rfl rfl 53 #[.int .i64 0, .int .i64 0] hZT infoSp rfl (by simp [Value.oneCell']) ?_
              have hZT := setRow_heap _ _ _ #[.int .i64 0, .int .i64 0] _ _ hZT
              refine hK.out _ _ (hHeld.setOther hgT hnT _) (fun hHeld => ?_)
              clear hK K
              try simp only [Act.put]
              refine tn 18 ?_
              try simp only [Act.put, aL1, aL2, aL3]
              refine rdone (NoPanic.normal ?_)
              have HR4 := Lib.hid (hHeld.cons hZT hgT hnT)
              go_wp2_with fail
              go_meet
              exact ⟨bT, rfl, rfl, HR4.out⟩
            · go_simp
              obtain ⟨bT, hbe, hS1, hZT, hgT, hnT, hbA⟩ := hHeld.allocB (.cells #[.int .i64 0, .int .i64 0] 53)
              have hxOT : ob ≠ bT := by rw [hbe]; exact Nat.ne_of_lt (blk_lt hZO)
              have hZO := (hbA.block ob (blk_lt hZO)).trans hZO
              try simp only [World.alloc, Array.size_push] at hbe
              rw [← hbe]
              refine hK.out _ _ hS1 (fun hHeld => ?_)
              clear hK K hS1 hbe hbA
              try simp only [Act.put, aL1, aL2, aL3]
              refine rd1 12 (fun K hK => ?_)
              go_simp
              refine (HBt.out _ ob hHeld.below (rowN hZO 0 (.int .i64 (j : Int)) rfl) (blk_lt hZO)).mono ?_
              rintro e w' ⟨rfl, hb⟩
              have hZT := (hb.block bT (blk_lt hZT)).trans hZT
              have hZO := (hb.block ob (blk_lt hZO)).trans hZO
              refine hK.out _ _ (hHeld.step hb) (fun hHeld => ?_)
              clear hK K
              try simp only [Act.put, aL1, aL2, aL3]
              refine tn 13 ?_
              try simp only [Act.put, aL1, aL2, aL3]
              refine tn 14 ?_
              try simp only [Act.put, aL1, aL2, aL3]
              refine tn 15 ?_
              try simp only [Act.put, aL1, aL2, aL3]
              refine rd1 17 (fun K hK => ?_)
              rw [if_pos (by rfl)]
              refine wp_store_row 53 _ _ rfl bT #[.int .i64 0, .int .i64 0] rfl rfl 53 #[.int .i64 0, .int .i64 0] hZT infoSp rfl (by simp [Value.oneCell']) ?_
              have hZT := setRow_heap _ _ _ #[.int .i64 0, .int .i64 0] _ _ hZT
              refine hK.out _ _ (hHeld.setOther hgT hnT _) (fun hHeld => ?_)
              clear hK K
              try simp only [Act.put]
              refine tn 18 ?_
              try simp only [Act.put, aL1, aL2, aL3]
              refine rdone (NoPanic.normal ?_)
              have HR4 := Lib.hid (hHeld.cons hZT hgT hnT)
              go_wp2_with fail
              go_meet
              exact ⟨bT, rfl, rfl, HR4.out⟩
          · go_simp
            obtain ⟨bT, hbe, hS1, hZT, hgT, hnT, hbA⟩ := hHeld.allocBD (.cells #[.int .i64 0, .int .i64 0] 53)
            try simp only [World.alloc, Array.size_push] at hbe
            rw [← hbe]
            refine hK.out _ _ hS1 (fun hHeld => ?_)
            clear hK K hS1 hbe hbA
            try simp only [Act.put, aL1, aL2, aL3]
            refine rd1 11 (fun K hK => ?_)
            go_simp
            refine (net_any2 (j : Int) _).mono ?_
            rintro e w' ⟨ob, rfl, hZO, hgeO, hb⟩
            obtain ⟨hgO, hnO⟩ := hHeld.fresh hgeO
            clear hgeO
            have hZT := (hb.block bT (blk_lt hZT)).trans hZT
            refine hK.out _ _ (hHeld.step hb) (fun hHeld => ?_)
            clear hK K
            try simp only [Act.put, aL1, aL2, aL3]
            refine rd1 12 (fun K hK => ?_)
            go_simp
            refine (HBt.out _ ob hHeld.below (rowN hZO 0 (.int .i64 (j : Int)) rfl) (blk_lt hZO)).mono ?_
            rintro e w' ⟨rfl, hb⟩
            have hZT := (hb.block bT (blk_lt hZT)).trans hZT
            have hZO := (hb.block ob (blk_lt hZO)).trans hZO
            refine hK.out _ _ (hHeld.step hb) (fun hHeld => ?_)
            clear hK K
            try simp only [Act.put, aL1, aL2, aL3]
            refine tn 13 ?_
            try simp only [Act.put, aL1, aL2, aL3]
            refine tn 14 ?_
            try simp only [Act.put, aL1, aL2, aL3]
            refine tn 15 ?_
            try simp only [Act.put, aL1, aL2, aL3]
            refine rd1 17 (fun K hK => ?_)
            rw [if_pos (by rfl)]
            refine wp_store_row 53 _ _ rfl bT #[.int .i64 0, .int .i64 0] rfl rfl 53 #[.int .i64 0, .int .i64 0] hZT infoSp rfl (by simp [Value.oneCell']) ?_
            have hZT := setRow_heap _ _ _ #[.int .i64 0, .int .i64 0] _ _ hZT
            refine hK.out _ _ (hHeld.setOther hgT hnT _) (fun hHeld => ?_)
            clear hK K
            try simp only [Act.put]
            refine tn 18 ?_
            try simp only [Act.put, aL1, aL2, aL3]
            refine rdone (NoPanic.normal ?_)
            have HR4 := Lib.hid (hHeld.cons hZT hgT hnT)
            go_wp2_with fail
            go_meet
            exact ⟨bT, rfl, rfl, HR4.out⟩
        obtain ⟨bT, rfl, rfl, hR5⟩ := hcut
        have HR5 := Lib.hid hR5
        clear hR5
        go_upto_region 4 with fail
        refine wp_region_noPanic ?_
        refine wp_region_held_drew (S := fun cw => RowsS w [(bT, .cells #[.int .i64 0, .int .i64 0] 53), (w.heap.size, .cells #[.int .i64 (j : Int), .int .i64 xw, .slice (some ⟨b, o, none⟩) 2 lc, .int .i64 xp.office, .int .i64 xp.since, .int .i64 xp.till, .int .i64 xp.litres, .int .i64 xp.e, .int .i64 xp.s] 40)] cw) (by kernel_rfl) (HR5.out.drew) (fun hHeld => ?_)
        refine tn 0 ?_
        try simp only [Act.put, aL1, aL2, aL3]
        refine tn 1 ?_
        try simp only [Act.put, aL1, aL2, aL3]
        refine skn 2 [(2, some 31), (3, some 32), (4, some 33), (5, some 34), (6, some 35), (7, some 36), (8, some 37), (9, some 38), (10, some 39), (11, some 40), (12, some 41)] ?_
        simp only [List.foldl_cons, List.foldl_nil, Act.put, aL1, aL2, aL3]
        refine tn 13 ?_
        try simp only [Act.put, aL1, aL2, aL3]
        refine tn 14 ?_
        try simp only [Act.put, aL1, aL2, aL3]
        refine rdone (NoPanic.normal ?_)
        have HT : Hid (cBal (judgeV err room ps pubs) ⟨(j : Int), xw, [c, d], xp⟩ = false) := Lib.hid (by show (allB [c, d] (j : Int) && balB (judgeV err room ps pubs) j c d) = false; rw [HAL.out, Bool.true_and]; unfold balB laterB judgeV; dsimp only; rw [HBn.out])
        go_wp2_with fail
        go_ret
        exact retB_mk HT.out hHeld.below
      | some s =>
        have HBn : Hid (betwN (hoursF pubs) (netP j) c.hour d.hour = some s) := Lib.hid hbn
        have HBt : Hid (∀ (w0 : World) (ob : Nat), Below w.heap.size w w0 → w0.cell? ⟨ob, 0, none⟩ = some (.int .i64 (j : Int)) → ob < w0.heap.size → Calls Tryz.prog 93 #[.pointer (some ⟨jb, 0, none⟩), .agg #[.int .i64 c.office, .int .i64 c.hour, .int .i64 c.inn, .int .i64 c.out, .int .i64 c.store, .string c.prev, .int .i64 c.e, .int .i64 c.s], .agg #[.int .i64 d.office, .int .i64 d.hour, .int .i64 d.inn, .int .i64 d.out, .int .i64 d.store, .string d.prev, .int .i64 d.e, .int .i64 d.s], .func (.func 80) #[] #[.pointer (some ⟨ob, 0, none⟩)]] w0 fun e w' => e = .returned (.tuple #[.agg #[.int .i64 s.lo, .int .i64 s.hi], .bool true]) ∧ Below w0.heap.size w0 w') := Lib.hid (fun w0 ob hb ho1 ho2 => by have h := betweenN_any jb mb ar ap cr cp err room ps pubs c d j ob w0 (hJ.below hb) hIc hId hI hpl hhc hhd hj3 ho1 ho2; rw [HBn.out] at h; exact h)
        clear hbn
        go_cut [5, 6] (fun s5 s6 wx => ∃ bT, s5 = .pointer (some ⟨bT, 0, none⟩) ∧ s6 = .bool true ∧ RowsS w [(bT, .cells #[.int .i64 s.lo, .int .i64 s.hi] 53), (w.heap.size, .cells #[.int .i64 (j : Int), .int .i64 xw, .slice (some ⟨b, o, none⟩) 2 lc, .int .i64 xp.office, .int .i64 xp.since, .int .i64 xp.till, .int .i64 xp.litres, .int .i64 xp.e, .int .i64 xp.s] 40)] wx)
        case first =>
          refine wp_region_noPanic ?_
          refine wp_region_held_drew (S := fun cw => RowsS w [(w.heap.size, .cells #[.int .i64 (j : Int), .int .i64 xw, .slice (some ⟨b, o, none⟩) 2 lc, .int .i64 xp.office, .int .i64 xp.since, .int .i64 xp.till, .int .i64 xp.litres, .int .i64 xp.e, .int .i64 xp.s] 40)] cw) (by kernel_rfl) (HR2.out.drew) (fun hHeld => ?_)
          refine tn 0 ?_
          try simp only [Act.put, aL1, aL2, aL3]
          refine tn 1 ?_
          try simp only [Act.put, aL1, aL2, aL3]
          refine tn 2 ?_ (hx := fun wz hSw => by have e4 := hSw.cell 0 2 rfl rfl; go_simp; try with_reducible rfl)
          try simp only [Act.put, aL1, aL2, aL3]
          refine tn 3 ?_
          try simp only [Act.put, aL1, aL2, aL3]
          refine tn 4 ?_ (hx := fun wz hSw => by refine exec_load_range 63 _ rfl _ _ ?_ _ _ (rangeAt_below HC0.out hSw.below hbl) undCm rfl infoCm; exact rfl)
          try simp only [Act.put, aL1, aL2, aL3]
          refine tn 5 ?_
          try simp only [Act.put, aL1, aL2, aL3]
          refine tn 6 ?_ (hx := fun wz hSw => by have e4 := hSw.cell 0 2 rfl rfl; go_simp; try with_reducible rfl)
          try simp only [Act.put, aL1, aL2, aL3]
          refine tn 7 ?_
          try simp only [Act.put, aL1, aL2, aL3]
          refine tn 8 ?_ (hx := fun wz hSw => by refine exec_load_range 63 _ rfl _ _ ?_ _ _ (rangeAt_below HC1.out hSw.below hbl) undCm rfl infoCm; exact rfl)
          try simp only [Act.put, aL1, aL2, aL3]
          refine tn 9 ?_
          try simp only [Act.put, aL1, aL2, aL3]
          refine tn 10 ?_ (hx := fun wz hSw => by have e4 := hSw.cell 0 0 rfl rfl; go_simp; try with_reducible rfl)
          try simp only [Act.put, aL1, aL2, aL3]
          refine rd2 11 16 (fun K hK => ?_) (fun K hK => ?_)
          · go_simp
            refine (net_any2 (j : Int) _).mono ?_
            rintro e w' ⟨ob, rfl, hZO, hgeO, hb⟩
            obtain ⟨hgO, hnO⟩ := hHeld.fresh hgeO
            clear hgeO
            refine hK.out _ _ (hHeld.step hb) (fun hHeld => ?_)
            clear hK K
            try simp only [Act.put, aL1, aL2, aL3]
            refine rd2 12 16 (fun K hK => ?_) (fun K hK => ?_)
            · go_simp
              refine (HBt.out _ ob hHeld.below (rowN hZO 0 (.int .i64 (j : Int)) rfl) (blk_lt hZO)).mono ?_
              rintro e w' ⟨rfl, hb⟩
              have hZO := (hb.block ob (blk_lt hZO)).trans hZO
              refine hK.out _ _ (hHeld.step hb) (fun hHeld => ?_)
              clear hK K
              try simp only [Act.put, aL1, aL2, aL3]
              refine tn 13 ?_
              try simp only [Act.put, aL1, aL2, aL3]
              refine tn 14 ?_
              try simp only [Act.put, aL1, aL2, aL3]
              refine tn 15 ?_
              try simp only [Act.put, aL1, aL2, aL3]
              refine rd1 16 (fun K hK => ?_)
              go_simp
              obtain ⟨bT, hbe, hS1, hZT, hgT, hnT, hbA⟩ := hHeld.allocB (.cells #[.int .i64 0, .int .i64 0] 53)
              have hxOT : ob ≠ bT := by rw [hbe]; exact Nat.ne_of_lt (blk_lt hZO)
              have hZO := (hbA.block ob (blk_lt hZO)).trans hZO
              try simp only [World.alloc, Array.size_push] at hbe
              rw [← hbe]
              refine hK.out _ _ hS1 (fun hHeld => ?_)
              clear hK K hS1 hbe hbA
              try simp only [Act.put, aL1, aL2, aL3]
              refine rd1 17 (fun K hK => ?_)
              rw [if_pos (by rfl)]
              refine wp_store_row 53 _ _ rfl bT #[.int .i64 s.lo, .int .i64 s.hi] rfl rfl 53 #[.int .i64 0, .int .i64 0] hZT infoSp rfl (by simp [Value.oneCell']) ?_
              have hZT := setRow_heap _ _ _ #[.int .i64 s.lo, .int .i64 s.hi] _ _ hZT
              refine hK.out _ _ (hHeld.setOther hgT hnT _) (fun hHeld => ?_)
              clear hK K
              try simp only [Act.put]
              refine tn 18 ?_
              try simp only [Act.put, aL1, aL2, aL3]
              refine rdone (NoPanic.normal ?_)
              have HR4 := Lib.hid (hHeld.cons hZT hgT hnT)
              go_wp2_with fail
              go_meet
              exact ⟨bT, rfl, rfl, HR4.out⟩
            · go_simp
              obtain ⟨bT, hbe, hS1, hZT, hgT, hnT, hbA⟩ := hHeld.allocB (.cells #[.int .i64 0, .int .i64 0] 53)
              have hxOT : ob ≠ bT := by rw [hbe]; exact Nat.ne_of_lt (blk_lt hZO)
              have hZO := (hbA.block ob (blk_lt hZO)).trans hZO
              try simp only [World.alloc, Array.size_push] at hbe
              rw [← hbe]
              refine hK.out _ _ hS1 (fun hHeld => ?_)
              clear hK K hS1 hbe hbA
              try simp only [Act.put, aL1, aL2, aL3]
              refine rd1 12 (fun K hK => ?_)
              go_simp
              refine (HBt.out _ ob hHeld.below (rowN hZO 0 (.int .i64 (j : Int)) rfl) (blk_lt hZO)).mono ?_
              rintro e w' ⟨rfl, hb⟩
              have hZT := (hb.block bT (blk_lt hZT)).trans hZT
              have hZO := (hb.block ob (blk_lt hZO)).trans hZO
              refine hK.out _ _ (hHeld.step hb) (fun hHeld => ?_)
              clear hK K
              try simp only [Act.put, aL1, aL2, aL3]
              refine tn 13 ?_
              try simp only [Act.put, aL1, aL2, aL3]
              refine tn 14 ?_
              try simp only [Act.put, aL1, aL2, aL3]
              refine tn 15 ?_
              try simp only [Act.put, aL1, aL2, aL3]
              refine rd1 17 (fun K hK => ?_)
              rw [if_pos (by rfl)]
              refine wp_store_row 53 _ _ rfl bT #[.int .i64 s.lo, .int .i64 s.hi] rfl rfl 53 #[.int .i64 0, .int .i64 0] hZT infoSp rfl (by simp [Value.oneCell']) ?_
              have hZT := setRow_heap _ _ _ #[.int .i64 s.lo, .int .i64 s.hi] _ _ hZT
              refine hK.out _ _ (hHeld.setOther hgT hnT _) (fun hHeld => ?_)
              clear hK K
              try simp only [Act.put]
              refine tn 18 ?_
              try simp only [Act.put, aL1, aL2, aL3]
              refine rdone (NoPanic.normal ?_)
              have HR4 := Lib.hid (hHeld.cons hZT hgT hnT)
              go_wp2_with fail
              go_meet
              exact ⟨bT, rfl, rfl, HR4.out⟩
          · go_simp
            obtain ⟨bT, hbe, hS1, hZT, hgT, hnT, hbA⟩ := hHeld.allocBD (.cells #[.int .i64 0, .int .i64 0] 53)
            try simp only [World.alloc, Array.size_push] at hbe
            rw [← hbe]
            refine hK.out _ _ hS1 (fun hHeld => ?_)
            clear hK K hS1 hbe hbA
            try simp only [Act.put, aL1, aL2, aL3]
            refine rd1 11 (fun K hK => ?_)
            go_simp
            refine (net_any2 (j : Int) _).mono ?_
            rintro e w' ⟨ob, rfl, hZO, hgeO, hb⟩
            obtain ⟨hgO, hnO⟩ := hHeld.fresh hgeO
            clear hgeO
            have hZT := (hb.block bT (blk_lt hZT)).trans hZT
            refine hK.out _ _ (hHeld.step hb) (fun hHeld => ?_)
            clear hK K
            try simp only [Act.put, aL1, aL2, aL3]
            refine rd1 12 (fun K hK => ?_)
            go_simp
            refine (HBt.out _ ob hHeld.below (rowN hZO 0 (.int .i64 (j : Int)) rfl) (blk_lt hZO)).mono ?_
            rintro e w' ⟨rfl, hb⟩
            have hZT := (hb.block bT (blk_lt hZT)).trans hZT
            have hZO := (hb.block ob (blk_lt hZO)).trans hZO
            refine hK.out _ _ (hHeld.step hb) (fun hHeld => ?_)
            clear hK K
            try simp only [Act.put, aL1, aL2, aL3]
            refine tn 13 ?_
            try simp only [Act.put, aL1, aL2, aL3]
            refine tn 14 ?_
            try simp only [Act.put, aL1, aL2, aL3]
            refine tn 15 ?_
            try simp only [Act.put, aL1, aL2, aL3]
            refine rd1 17 (fun K hK => ?_)
            rw [if_pos (by rfl)]
            refine wp_store_row 53 _ _ rfl bT #[.int .i64 s.lo, .int .i64 s.hi] rfl rfl 53 #[.int .i64 0, .int .i64 0] hZT infoSp rfl (by simp [Value.oneCell']) ?_
            have hZT := setRow_heap _ _ _ #[.int .i64 s.lo, .int .i64 s.hi] _ _ hZT
            refine hK.out _ _ (hHeld.setOther hgT hnT _) (fun hHeld => ?_)
            clear hK K
            try simp only [Act.put]
            refine tn 18 ?_
            try simp only [Act.put, aL1, aL2, aL3]
            refine rdone (NoPanic.normal ?_)
            have HR4 := Lib.hid (hHeld.cons hZT hgT hnT)
            go_wp2_with fail
            go_meet
            exact ⟨bT, rfl, rfl, HR4.out⟩
        obtain ⟨bT, rfl, rfl, hR5⟩ := hcut
        have HR5 := Lib.hid hR5
        clear hR5
        have hsI : SpI s := betw_I HBn.out
        go_upto_region 4 with fail
        refine wp_region_noPanic ?_
        refine wp_region_held_drew (S := fun cw => RowsS w [(bT, .cells #[.int .i64 s.lo, .int .i64 s.hi] 53), (w.heap.size, .cells #[.int .i64 (j : Int), .int .i64 xw, .slice (some ⟨b, o, none⟩) 2 lc, .int .i64 xp.office, .int .i64 xp.since, .int .i64 xp.till, .int .i64 xp.litres, .int .i64 xp.e, .int .i64 xp.s] 40)] cw) (by kernel_rfl) (HR5.out.drew) (fun hHeld => ?_)
        refine tn 0 ?_
        try simp only [Act.put, aL1, aL2, aL3]
        refine tn 1 ?_
        try simp only [Act.put, aL1, aL2, aL3]
        refine tn 2 ?_
        try simp only [Act.put, aL1, aL2, aL3]
        refine tn 3 ?_
        try simp only [Act.put, aL1, aL2, aL3]
        refine tn 4 ?_ (hx := fun wz hSw => by have e4 := hSw.cell 1 2 rfl rfl; go_simp; try with_reducible rfl)
        try simp only [Act.put, aL1, aL2, aL3]
        refine tn 5 ?_
        try simp only [Act.put, aL1, aL2, aL3]
        refine tn 6 ?_ (hx := fun wz hSw => by refine exec_load_range 63 _ rfl _ _ ?_ _ _ (rangeAt_below HC0.out hSw.below hbl) undCm rfl infoCm; exact rfl)
        try simp only [Act.put, aL1, aL2, aL3]
        refine tn 7 ?_
        try simp only [Act.put, aL1, aL2, aL3]
        refine tn 8 ?_ (hx := fun wz hSw => by have e4 := hSw.cell 1 2 rfl rfl; go_simp; try with_reducible rfl)
        try simp only [Act.put, aL1, aL2, aL3]
        refine tn 9 ?_
        try simp only [Act.put, aL1, aL2, aL3]
        refine tn 10 ?_ (hx := fun wz hSw => by refine exec_load_range 63 _ rfl _ _ ?_ _ _ (rangeAt_below HC1.out hSw.below hbl) undCm rfl infoCm; exact rfl)
        try simp only [Act.put, aL1, aL2, aL3]
        refine tn 11 ?_ (hx := fun wz hSw => by refine exec_load_row 53 ?_ ?_ _ ?_ 53 _ _ _ (hSw.row 0 rfl) undSp rfl infoSp; rotate_left 1; exact rfl; exact rfl)
        try simp only [Act.put, aL1, aL2, aL3]
        cases huv : unbalB err c d s with
        | true =>
          have HUv : Hid (unbalB err c d s = true) := Lib.hid huv
          have HUn : Hid (∀ w0, Below w.heap.size w w0 → Calls Tryz.prog 53 #[.pointer (some ⟨jb, 0, none⟩), .agg #[.int .i64 c.office, .int .i64 c.hour, .int .i64 c.inn, .int .i64 c.out, .int .i64 c.store, .string c.prev, .int .i64 c.e, .int .i64 c.s], .agg #[.int .i64 d.office, .int .i64 d.hour, .int .i64 d.inn, .int .i64 d.out, .int .i64 d.store, .string d.prev, .int .i64 d.e, .int .i64 d.s], .agg #[.int .i64 s.lo, .int .i64 s.hi]] w0 fun e w' => e = .returned (.bool true) ∧ Below w0.heap.size w0 w') := Lib.hid (fun w0 hb => by have h := unbalanced_any jb mb ar ap cr cp err room ps pubs c d s w0 (hJ.below hb) hnc hnd hsI; rw [huv] at h; exact h)
          clear huv
          refine rd1 12 (fun K hK => ?_)
          go_simp
          refine (HUn.out _ hHeld.below).mono ?_
          rintro e w' ⟨rfl, hb⟩
          refine hK.out _ _ (hHeld.step hb) (fun hHeld => ?_)
          clear hK K
          try simp only [Act.put, aL1, aL2, aL3]
          refine tn 13 ?_
          try simp only [Act.put, aL1, aL2, aL3]
          refine tn 14 ?_
          try simp only [Act.put, aL1, aL2, aL3]
          refine rdone (NoPanic.normal ?_)
          have HT : Hid (cBal (judgeV err room ps pubs) ⟨(j : Int), xw, [c, d], xp⟩ = true) := Lib.hid (by show (allB [c, d] (j : Int) && balB (judgeV err room ps pubs) j c d) = true; rw [HAL.out, Bool.true_and]; unfold balB laterB judgeV; dsimp only; rw [HBn.out]; exact HUv.out)
          go_wp2_with fail
          go_ret
          exact retB_mk HT.out hHeld.below
        | false =>
          have HUv : Hid (unbalB err c d s = false) := Lib.hid huv
          have HUn : Hid (∀ w0, Below w.heap.size w w0 → Calls Tryz.prog 53 #[.pointer (some ⟨jb, 0, none⟩), .agg #[.int .i64 c.office, .int .i64 c.hour, .int .i64 c.inn, .int .i64 c.out, .int .i64 c.store, .string c.prev, .int .i64 c.e, .int .i64 c.s], .agg #[.int .i64 d.office, .int .i64 d.hour, .int .i64 d.inn, .int .i64 d.out, .int .i64 d.store, .string d.prev, .int .i64 d.e, .int .i64 d.s], .agg #[.int .i64 s.lo, .int .i64 s.hi]] w0 fun e w' => e = .returned (.bool false) ∧ Below w0.heap.size w0 w') := Lib.hid (fun w0 hb => by have h := unbalanced_any jb mb ar ap cr cp err room ps pubs c d s w0 (hJ.below hb) hnc hnd hsI; rw [huv] at h; exact h)
          clear huv
          refine rd1 12 (fun K hK => ?_)
          go_simp
          refine (HUn.out _ hHeld.below).mono ?_
          rintro e w' ⟨rfl, hb⟩
          refine hK.out _ _ (hHeld.step hb) (fun hHeld => ?_)
          clear hK K
          try simp only [Act.put, aL1, aL2, aL3]
          refine tn 13 ?_
          try simp only [Act.put, aL1, aL2, aL3]
          refine tn 14 ?_
          try simp only [Act.put, aL1, aL2, aL3]
          refine rdone (NoPanic.normal ?_)
          have HT : Hid (cBal (judgeV err room ps pubs) ⟨(j : Int), xw, [c, d], xp⟩ = false) := Lib.hid (by show (allB [c, d] (j : Int) && balB (judgeV err room ps pubs) j c d) = false; rw [HAL.out, Bool.true_and]; unfold balB laterB judgeV; dsimp only; rw [HBn.out]; exact HUv.out)
          go_wp2_with fail
          go_ret
          exact retB_mk HT.out hHeld.below
    | false =>
      have HAL : Hid (allB [c, d] (j : Int) = false) := Lib.hid hal
      have HAv : Hid ((decide (([c, d] : List CV).length = 2) && allB [c, d] (j : Int)) = false) := Lib.hid (by rw [hal]; rfl)
      clear hal
      have HAll : Hid (∀ w0, Below w.heap.size w w0 → Calls Tryz.prog 92 #[.slice (some ⟨b, o, none⟩) 2 lc, .int .i64 2, .int .i64 (j : Int)] w0 fun e w' => e = .returned (.bool false) ∧ Below w0.heap.size w0 w') := Lib.hid (fun w0 hb => by have h := all_any [c, d] _ 2 (j : Int) w0 (HL.out.below stays_RC hb) (by simp) (by decide); rw [HAv.out] at h; exact h)
      have HT : Hid (cBal (judgeV err room ps pubs) ⟨(j : Int), xw, [c, d], xp⟩ = false) := Lib.hid (by show (allB [c, d] (j : Int) && _) = false; rw [HAL.out]; rfl)
      go_wp2_with fail
      refine (HAll.out _ HR.out.below).mono ?_
      rintro e w1 ⟨rfl, hb1⟩
      have HR2 := Lib.hid (HR.out.step hb1)
      clear hb1
      go_wp2_with fail
      go_ret
      exact retB_mk HT.out HR2.out.below
  · have HT : Hid (cBal (judgeV err room ps pubs) ⟨(j : Int), xw, xc, xp⟩ = false) := Lib.hid (by
      unfold cBal
      rcases xc with _ | ⟨c1, _ | ⟨c2, _ | ⟨c3, t⟩⟩⟩ <;> first | (simp at hlen; done) | (simp; done) | rfl)
    have HAv : Hid ((decide (xc.length = 2) && allB xc (j : Int)) = false) := Lib.hid (by rw [decide_eq_false hlen]; rfl)
    have HAll : Hid (∀ w0, Below w.heap.size w w0 → Calls Tryz.prog 92 #[.slice al xc.length lc, .int .i64 2, .int .i64 (j : Int)] w0 fun e w' => e = .returned (.bool false) ∧ Below w0.heap.size w0 w') := Lib.hid (fun w0 hb => by have h := all_any xc _ 2 (j : Int) w0 (HL.out.below stays_RC hb) hl (by decide); rw [HAv.out] at h; exact h)
    clear hL hk hlen
    have HR := Lib.hid ((RowsS.nil w).alloc (.cells #[.int .i64 (j : Int), .int .i64 xw, .slice al xc.length lc, .int .i64 xp.office, .int .i64 xp.since, .int .i64 xp.till, .int .i64 xp.litres, .int .i64 xp.e, .int .i64 xp.s] 40))
    go_enter Tryz.func63, Tryz.ntmps63
    go_upto_region 1 with fail
    generalize w.alloc (.cells #[.int .i64 (j : Int), .int .i64 xw, .slice al xc.length lc, .int .i64 xp.office, .int .i64 xp.since, .int .i64 xp.till, .int .i64 xp.litres, .int .i64 xp.e, .int .i64 xp.s] 40) = w0 at *
    have x0 := HR.out.cell 0 0 rfl rfl
    have x2 := HR.out.cell 0 2 rfl rfl
    go_wp2_with fail
    refine (HAll.out _ HR.out.below).mono ?_
    rintro e w1 ⟨rfl, hb1⟩
    have HR1 := Lib.hid (HR.out.step hb1)
    clear hb1
    go_wp2_with fail
    go_ret
    exact retB_mk HT.out HR1.out.below
end Go.Proofs.YtjbjpkhibcnenaaGreatDoor

