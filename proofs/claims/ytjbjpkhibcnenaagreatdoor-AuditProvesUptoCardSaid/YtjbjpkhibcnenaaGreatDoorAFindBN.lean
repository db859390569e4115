/- audit.Find: later with the net. -/
import Derived.Test.YtjbjpkhibcnenaaGreatDoorAFindB
namespace Go.Proofs.YtjbjpkhibcnenaaGreatDoor
open Go.RowKit
set_option maxRecDepth 100000 in
set_option maxHeartbeats 8000000 in
theorem laterN_any (jb mb : Nat) (ar ap : Option Addr) (cr cp : Nat) (err : Int) (room ps : List Int) (pubs : List PublicV) (sb j : Nat) (ao : Option Addr) (ko : Nat) (L : List CV) (last : Int) (ob : Nat) (w : World) (hJ : JudgeAt jb mb ar ap cr cp err room ps pubs w) (hS : SOf sb jb j ao ko L last w) (hI : ∀ p ∈ pubs, PbI p) (hpl : pubs.length ≤ 1000) (hob : w.cell? ⟨ob, 0, none⟩ = some (.int .i64 (j : Int))) (hobl : ob < w.heap.size) :
    Calls Tryz.prog 52 #[.pointer (some ⟨sb, 0, none⟩), .int .i64 (j : Int), .func (.func 80) #[] #[.pointer (some ⟨ob, 0, none⟩)], .func (.func 53) #[.pointer (some ⟨jb, 0, none⟩)] #[]] w (RetP (first2 (laterB (hoursF pubs) (netP j) (unbalB err)) L L) w) := by
  have HJ := Lib.hid hJ.row
  have hjl := blk_lt hJ.row
  have HJd := Lib.hid hJ
  have HSO := Lib.hid hS
  have hj3 := hS.j3
  have hj3i : (j : Int) < 3 := by omega
  have hla := hS.la
  have hll := hS.ll
  have HOB := Lib.hid hob
  clear hob
  have s1 : (w.alloc (.cells #[.int .i64 0, .int .i64 0, .int .i64 0, .int .i64 0, .int .i64 0, .string ⟨#[]⟩, .int .i64 0, .int .i64 0] 63)).heap.size = w.heap.size + 1 := by simp
  have HR : Hid (RowsS w [(w.heap.size, .cells #[.int .i64 0, .int .i64 0, .int .i64 0, .int .i64 0, .int .i64 0, .string ⟨#[]⟩, .int .i64 0, .int .i64 0] 63), (w.heap.size + 1, .cells #[.int .i64 0, .int .i64 0, .int .i64 0, .int .i64 0, .int .i64 0, .string ⟨#[]⟩, .int .i64 0, .int .i64 0] 63)] ((w.alloc (.cells #[.int .i64 0, .int .i64 0, .int .i64 0, .int .i64 0, .int .i64 0, .string ⟨#[]⟩, .int .i64 0, .int .i64 0] 63)).alloc (.cells #[.int .i64 0, .int .i64 0, .int .i64 0, .int .i64 0, .int .i64 0, .string ⟨#[]⟩, .int .i64 0, .int .i64 0] 63))) := Lib.hid (by
    have := ((RowsS.nil w).alloc (.cells #[.int .i64 0, .int .i64 0, .int .i64 0, .int .i64 0, .int .i64 0, .string ⟨#[]⟩, .int .i64 0, .int .i64 0] 63)).alloc (.cells #[.int .i64 0, .int .i64 0, .int .i64 0, .int .i64 0, .int .i64 0, .string ⟨#[]⟩, .int .i64 0, .int .i64 0] 63)
    rw [s1] at this
    exact this)
  clear hJ hS s1
  go_enter Tryz.func52, Tryz.ntmps52
  go_upto_region 1 with fail
  generalize ((w.alloc (.cells #[.int .i64 0, .int .i64 0, .int .i64 0, .int .i64 0, .int .i64 0, .string ⟨#[]⟩, .int .i64 0, .int .i64 0] 63)).alloc (.cells #[.int .i64 0, .int .i64 0, .int .i64 0, .int .i64 0, .int .i64 0, .string ⟨#[]⟩, .int .i64 0, .int .i64 0] 63)) = w0 at *
  have HSO0 := Lib.hid (HSO.out.below HR.out.below)
  have hcj := HSO0.out.cj
  go_wp2_with fail
  clear hcj HSO0
  go_loopw [24] (fun iv wx => ∃ k : Nat, k ≤ L.length ∧ iv = .int .i64 k ∧ (∀ (i : Nat) (x : CV), i < k → L[i]? = some x → ∀ y ∈ L, (laterB (hoursF pubs) (netP j) (unbalB err)) x y = false) ∧ RowsS w [(w.heap.size, .cells #[.int .i64 0, .int .i64 0, .int .i64 0, .int .i64 0, .int .i64 0, .string ⟨#[]⟩, .int .i64 0, .int .i64 0] 63), (w.heap.size + 1, .cells #[.int .i64 0, .int .i64 0, .int .i64 0, .int .i64 0, .int .i64 0, .string ⟨#[]⟩, .int .i64 0, .int .i64 0] 63)] wx) (fun iv _ => L.length - (Go.RowKit.intOf iv).toNat)
  case atStart => exact ⟨0, Nat.zero_le _, rfl, fun i x h => absurd h (Nat.not_lt_zero _), HR.out⟩
  case round =>
    obtain ⟨k, hk, rfl, hno, hr⟩ := hrel
    have HNO := Lib.hid hno
    have HR1 := Lib.hid hr
    clear hno hr HR
    by_cases hlt : k < L.length
    · obtain ⟨c, hc⟩ : ∃ c, L[k]? = some c := ⟨_, List.getElem?_eq_getElem hlt⟩
      obtain ⟨hcn, hch, hchl, hco⟩ := HSO.out.hk c (List.mem_of_getElem? hc)
      obtain ⟨b, o, cs, rfl, hbl, -, hrg, hcs, -⟩ := HSO.out.l.at hc
      unfold cellsC at hcs
      subst hcs
      have HRG := Lib.hid (rangeAt_below hrg HR1.out.below hbl)
      have HC := Lib.hid hc
      have HR2 := Lib.hid (HR1.out.alloc (.cells #[.int .i64 c.office, .int .i64 c.hour, .int .i64 c.inn, .int .i64 c.out, .int .i64 c.store, .string c.prev, .int .i64 c.e, .int .i64 c.s] 63))
      clear hc hrg HR1 hco
      go_upto_region 4 with (refine wpList_load_range (by first | (go_simp; done) | rfl) 63 _ rfl _ _ rfl _ _ HRG.out undCm rfl infoCm ?_)
      clear HRG
      generalize wr.alloc (.cells #[.int .i64 c.office, .int .i64 c.hour, .int .i64 c.inn, .int .i64 c.out, .int .i64 c.store, .string c.prev, .int .i64 c.e, .int .i64 c.s] 63) = w2 at *
      generalize wr.heap.size = bC at *
      refine wp_region_noPanic ?_
      refine wp_region_held_drew (S := fun cw => RowsS w [(w.heap.size, .cells #[.int .i64 0, .int .i64 0, .int .i64 0, .int .i64 0, .int .i64 0, .string ⟨#[]⟩, .int .i64 0, .int .i64 0] 63), ((w.heap.size + 1), .cells #[.int .i64 0, .int .i64 0, .int .i64 0, .int .i64 0, .int .i64 0, .string ⟨#[]⟩, .int .i64 0, .int .i64 0] 63), (bC, .cells #[.int .i64 c.office, .int .i64 c.hour, .int .i64 c.inn, .int .i64 c.out, .int .i64 c.store, .string c.prev, .int .i64 c.e, .int .i64 c.s] 63)] cw) (by kernel_rfl) (HR2.out.drew) (fun hHeld => ?_)
      refine tn 0 ?_
      try simp only [Act.put, aL1, aL2, aL3]
      refine tn 1 ?_
      try simp only [Act.put, aL1, aL2, aL3]
      refine tn 2 ?_
      try simp only [Act.put, aL1, aL2, aL3]
      refine tn 3 ?_ (hx := fun wz hSw => by have e4 := (hSw.below.cell (p := ⟨sb, 0, none⟩) HSO.out.lt).trans HSO.out.c0; go_simp; try with_reducible rfl)
      try simp only [Act.put, aL1, aL2, aL3]
      refine tn 4 ?_
      try simp only [Act.put, aL1, aL2, aL3]
      refine tn 5 ?_
      try simp only [Act.put, aL1, aL2, aL3]
      refine tn 6 ?_ (hx := fun wz hSw => by have e4 := hSw.old HJ 3 rfl; go_simp; try with_reducible rfl)
      try simp only [Act.put, aL1, aL2, aL3]
      refine tn 7 ?_
      try simp only [Act.put, aL1, aL2, aL3]
      refine tn 8 ?_ (hx := fun wz hSw => by have e4 := hSw.cell 2 1 rfl rfl; go_simp; try with_reducible rfl)
      try simp only [Act.put, aL1, aL2, aL3]
      refine tn 9 ?_
      try simp only [Act.put, aL1, aL2, aL3]
      refine tn 10 ?_
      try simp only [Act.put, aL1, aL2, aL3]
      refine tn 11 ?_
      try simp only [Act.put, aL1, aL2, aL3]
      refine tn 12 ?_ (hx := fun wz hSw => by have e4 := (hSw.below.cell (p := ⟨sb, 5, none⟩) HSO.out.lt).trans HSO.out.c5; go_simp; try with_reducible rfl)
      try simp only [Act.put, aL1, aL2, aL3]
      refine tn 13 ?_
      try simp only [Act.put, aL1, aL2, aL3]
      refine rd1 14 (fun K hK => ?_)
      go_simp
      refine (sumsN_any pubs mb c.hour last _ (HJd.out.hours.below hHeld.below) ⟨by omega, by omega⟩ ⟨by omega, by omega⟩ hI hpl j ob hj3 ((hHeld.below.cell (p := ⟨ob, 0, none⟩) hobl).trans HOB.out) (Nat.lt_of_lt_of_le hobl hHeld.below.size)).mono ?_
      rintro e w' ⟨vS, Ls, rfl, hLs, hIs, hb⟩
      refine hK.out _ _ (hHeld.step hb) (fun hHeld => ?_)
      clear hK K
      try simp only [Act.put, aL1, aL2, aL3]
      refine tn 15 ?_
      try simp only [Act.put, aL1, aL2, aL3]
      refine rdone (NoPanic.normal ?_)
      have HRb := Lib.hid hHeld
      have HLs := Lib.hid hLs
      have HIs := Lib.hid hIs
      clear hHeld hLs hIs
      obtain ⟨aS, cS, rfl, hSl, hSm⟩ := HLs.out.slice
      have hLm : Ls.length ≤ 9223372036854775807 := by unfold maxLen at hSm; omega
      have HSOb := Lib.hid (HSO.out.below HRb.out.below)
      have HJdb := Lib.hid (HJd.out.below HRb.out.below)
      have hcj := HSOb.out.cj
      clear hSm hSl HR2
      go_wp2_with fail
      clear hcj
      go_loopw [50] (fun iv wx => ∃ q : Nat, q ≤ L.length ∧ iv = .int .i64 q ∧ (∀ (i : Nat) (y : CV), i < q → L[i]? = some y → (laterB (hoursF pubs) (netP j) (unbalB err)) c y = false) ∧ SOf sb jb j (some ⟨b, o, none⟩) ko L last wx ∧ LArg RSpan 2 (.slice aS Ls.length cS) Ls wx ∧ JudgeAt jb mb ar ap cr cp err room ps pubs wx ∧ RowsS w [(w.heap.size, .cells #[.int .i64 0, .int .i64 0, .int .i64 0, .int .i64 0, .int .i64 0, .string ⟨#[]⟩, .int .i64 0, .int .i64 0] 63), (w.heap.size + 1, .cells #[.int .i64 0, .int .i64 0, .int .i64 0, .int .i64 0, .int .i64 0, .string ⟨#[]⟩, .int .i64 0, .int .i64 0] 63), (bC, .cells #[.int .i64 c.office, .int .i64 c.hour, .int .i64 c.inn, .int .i64 c.out, .int .i64 c.store, .string c.prev, .int .i64 c.e, .int .i64 c.s] 63)] wx) (fun iv _ => L.length - (Go.RowKit.intOf iv).toNat)
      case atStart => exact ⟨0, Nat.zero_le _, rfl, fun i x h => absurd h (Nat.not_lt_zero _), HSOb.out, HLs.out, HJdb.out, HRb.out⟩
      case round =>
        obtain ⟨q, hq, rfl, hnd, hso, hsl0, hjd, hr⟩ := hrel
        have HND := Lib.hid hnd
        have HR3 := Lib.hid hr
        have HSO3 := Lib.hid hso
        have HSL3 := Lib.hid hsl0
        have HJd3 := Lib.hid hjd
        clear hnd hr hso hsl0 hjd HRb HLs HSOb HJdb
        by_cases hlq : q < L.length
        · obtain ⟨d, hd⟩ : ∃ d, L[q]? = some d := ⟨_, List.getElem?_eq_getElem hlq⟩
          obtain ⟨hdn, hdh, hdhl, hdo⟩ := HSO.out.hk d (List.mem_of_getElem? hd)
          obtain ⟨b', o', cs, he, hbm, -, hrg, hcs, -⟩ := HSO3.out.l.at hd
          simp only [Option.some.injEq, Addr.mk.injEq, and_true] at he
          obtain ⟨rfl, rfl⟩ := he
          unfold cellsC at hcs
          subst hcs
          have HRG := Lib.hid hrg
          have HD := Lib.hid hd
          have hal : Below wr.heap.size wr (wr.alloc (.cells #[.int .i64 d.office, .int .i64 d.hour, .int .i64 d.inn, .int .i64 d.out, .int .i64 d.store, .string d.prev, .int .i64 d.e, .int .i64 d.s] 63)) := (Below.refl _ _).alloc (Nat.le_refl _) _
          have HR5 := Lib.hid (HR3.out.alloc (.cells #[.int .i64 d.office, .int .i64 d.hour, .int .i64 d.inn, .int .i64 d.out, .int .i64 d.store, .string d.prev, .int .i64 d.e, .int .i64 d.s] 63))
          have HSO5 := Lib.hid (HSO3.out.below hal)
          have HSL5 := Lib.hid (HSL3.out.below stays_Span hal)
          have HJd5 := Lib.hid (HJd3.out.below hal)
          clear hd hrg HR3 HSO3 HSL3 HJd3 hal hdo
          go_upto_region 8 with (refine wpList_load_range (by first | (go_simp; done) | rfl) 63 _ rfl _ _ rfl _ _ HRG.out undCm rfl infoCm ?_)
          clear HRG
          generalize wr.alloc (.cells #[.int .i64 d.office, .int .i64 d.hour, .int .i64 d.inn, .int .i64 d.out, .int .i64 d.store, .string d.prev, .int .i64 d.e, .int .i64 d.s] 63) = w5 at *
          generalize wr.heap.size = bD at *
          have HCR := Lib.hid (HR5.out.row 2 rfl)
          have HDR := Lib.hid (HR5.out.row 3 rfl)
          have c1 := HR5.out.cell 2 1 rfl rfl
          have d1 := HR5.out.cell 3 1 rfl rfl
          have HLI := Lib.hid (later_is (bad := unbalB err) HIs.out hdhl)
          obtain ⟨z, hz⟩ : ∃ z, z = d.hour - c.hour := ⟨_, rfl⟩
          have W1 : IntKind.i64.wrap (d.hour - c.hour) = z := by rw [hz]; exact IntWalk.i64_in _ (by omega)
          have HZ := Lib.hid hz
          clear hz
          go_upto_region 9 with fail
          clear c1 d1 W1
          refine wp_region_noPanic ?_
          refine wp_region_held_drew (S := fun cw => RowsS w5 [] cw) (by kernel_rfl) ((RowsS.nil w5).drew) (fun hHeld => ?_)
          refine tn 0 ?_
          try simp only [Act.put, aL1, aL2, aL3]
          by_cases h1 : c.hour < d.hour
          · have h0 : (0 : Int) < z := by have hz := HZ.out; omega
            obtain ⟨m, hzm⟩ : ∃ m : Nat, z = (m : Int) := ⟨z.toNat, by omega⟩
            subst hzm
            have hm0 : 0 < m := by omega
            have hm1 : decide (0 < m) = true := decide_eq_true hm0
            have HMT : Hid ((d.hour - c.hour).toNat = m) := Lib.hid (by have hz := HZ.out; omega)
            refine tn 1 ?_
            try simp only [Act.put, aL1, aL2, aL3]
            refine tn 2 ?_
            try simp only [Act.put, aL1, aL2, aL3]
            refine tn 3 ?_
            try simp only [Act.put, aL1, aL2, aL3]
            refine tn 4 ?_
            try simp only [Act.put, aL1, aL2, aL3]
            refine tn 5 ?_
            try simp only [Act.put, aL1, aL2, aL3]
            by_cases h2 : m < Ls.length
            · have h3 : (m : Int) < (Ls.length : Int) := by omega
              obtain ⟨s, hs⟩ : ∃ s, Ls[m]? = some s := ⟨_, List.getElem?_eq_getElem h2⟩
              obtain ⟨bs, os, cs, rfl, hsl, -, hsg, rfl, hsI⟩ := HSL5.out.at hs
              have HSG := Lib.hid hsg
              have HSs : Hid (Ls[(d.hour - c.hour).toNat]? = some s) := Lib.hid (by rw [HMT.out]; exact hs)
              clear hs hsg
              refine tn 6 ?_
              try simp only [Act.put, aL1, aL2, aL3]
              refine tn 7 ?_
              try simp only [Act.put, aL1, aL2, aL3]
              refine tn 8 ?_
              try simp only [Act.put, aL1, aL2, aL3]
              refine tn 9 ?_
              try simp only [Act.put, aL1, aL2, aL3]
              refine tn 10 ?_ (hx := fun wz hSw => by refine exec_load_row 63 ?_ ?_ _ ?_ 63 _ _ _ (hSw.oldRow HCR) undCm rfl infoCm; rotate_left 1; exact rfl; exact rfl)
              try simp only [Act.put, aL1, aL2, aL3]
              refine tn 11 ?_ (hx := fun wz hSw => by refine exec_load_row 63 ?_ ?_ _ ?_ 63 _ _ _ (hSw.oldRow HDR) undCm rfl infoCm; rotate_left 1; exact rfl; exact rfl)
              try simp only [Act.put, aL1, aL2, aL3]
              refine tn 12 ?_
              try simp only [Act.put, aL1, aL2, aL3]
              refine tn 13 ?_
              try simp only [Act.put, aL1, aL2, aL3]
              refine tn 14 ?_
              try simp only [Act.put, aL1, aL2, aL3]
              refine tn 15 ?_ (hx := fun wz hSw => by refine exec_load_range 53 _ rfl _ _ ?_ _ _ (rangeAt_below HSG.out hSw.below hsl) undSp rfl infoSp; exact rfl)
              try simp only [Act.put, aL1, aL2, aL3]
              cases huv : unbalB err c d s with
              | true =>
                have HUv := Lib.hid huv
                have HBD : Hid (∀ w0, Below w5.heap.size w5 w0 → Calls Tryz.prog 53 #[.pointer (some ⟨jb, 0, none⟩), .agg #[.int .i64 c.office, .int .i64 c.hour, .int .i64 c.inn, .int .i64 c.out, .int .i64 c.store, .string c.prev, .int .i64 c.e, .int .i64 c.s], .agg #[.int .i64 d.office, .int .i64 d.hour, .int .i64 d.inn, .int .i64 d.out, .int .i64 d.store, .string d.prev, .int .i64 d.e, .int .i64 d.s], .agg #[.int .i64 s.lo, .int .i64 s.hi]] w0 fun e w' => e = .returned (.bool true) ∧ Below w0.heap.size w0 w') := Lib.hid (fun w0 hb => by have h := unbalanced_any jb mb ar ap cr cp err room ps pubs c d s w0 (HJd5.out.below hb) hcn hdn hsI; rw [huv] at h; exact h)
                have HPP : Hid ((laterB (hoursF pubs) (netP j) (unbalB err)) c d = true) := Lib.hid ((HLI.out.2.2 s h1 HSs.out).trans huv)
                clear huv
                refine rd1 16 (fun K hK => ?_)
                go_simp
                refine (HBD.out _ hHeld.below).mono ?_
                rintro e w' ⟨rfl, hb⟩
                refine hK.out _ _ (hHeld.step hb) (fun hHeld => ?_)
                clear hK K
                try simp only [Act.put, aL1, aL2, aL3]
                refine tn 17 ?_
                try simp only [Act.put, aL1, aL2, aL3]
                refine rdone (NoPanic.normal ?_)
                have HR6 := Lib.hid (HR5.out.step hHeld.below)
                have HSO6 := Lib.hid (HSO5.out.below hHeld.below)
                have HSL6 := Lib.hid (HSL5.out.below stays_Span hHeld.below)
                have HJ6 := Lib.hid (HJd5.out.below hHeld.below)
                clear HR5 HSO5 HSL5 HJd5
                have HF := Lib.hid (first2_found HNO.out HC.out HND.out HD.out HPP.out)
                go_upto_region 10 with fail
                obtain ⟨hRs, hZR, hgR, hnR⟩ := HR6.out.split
                obtain ⟨hRs, hZS, hgS, hnS⟩ := hRs.split
                have hnR : w.heap.size ∉ ([(bC, Obj.cells #[.int .i64 c.office, .int .i64 c.hour, .int .i64 c.inn, .int .i64 c.out, .int .i64 c.store, .string c.prev, .int .i64 c.e, .int .i64 c.s] 63), (bD, Obj.cells #[.int .i64 d.office, .int .i64 d.hour, .int .i64 d.inn, .int .i64 d.out, .int .i64 d.store, .string d.prev, .int .i64 d.e, .int .i64 d.s] 63)] : List (Nat × Obj)).map (·.1) := fun h => hnR (List.mem_cons_of_mem _ h)
                refine wp_region_noPanic ?_
                refine wp_region_held_drew (S := fun cw => RowsS w [(bC, .cells #[.int .i64 c.office, .int .i64 c.hour, .int .i64 c.inn, .int .i64 c.out, .int .i64 c.store, .string c.prev, .int .i64 c.e, .int .i64 c.s] 63), (bD, .cells #[.int .i64 d.office, .int .i64 d.hour, .int .i64 d.inn, .int .i64 d.out, .int .i64 d.store, .string d.prev, .int .i64 d.e, .int .i64 d.s] 63)] cw) (by kernel_rfl) (hRs.drew) (fun hHeld => ?_)
                refine tn 0 ?_ (hx := fun wz hSw => by refine exec_load_row 63 ?_ ?_ _ ?_ 63 _ _ _ (hSw.row 0 rfl) undCm rfl infoCm; rotate_left 1; exact rfl; exact rfl)
                try simp only [Act.put, aL1, aL2, aL3]
                refine tn 1 ?_ (hx := fun wz hSw => by refine exec_load_row 63 ?_ ?_ _ ?_ 63 _ _ _ (hSw.row 1 rfl) undCm rfl infoCm; rotate_left 1; exact rfl; exact rfl)
                try simp only [Act.put, aL1, aL2, aL3]
                refine rd1 2 (fun K hK => ?_)
                rw [if_pos (by rfl)]
                refine wp_store_row 63 _ _ rfl w.heap.size #[.int .i64 c.office, .int .i64 c.hour, .int .i64 c.inn, .int .i64 c.out, .int .i64 c.store, .string c.prev, .int .i64 c.e, .int .i64 c.s] rfl rfl 63 #[.int .i64 0, .int .i64 0, .int .i64 0, .int .i64 0, .int .i64 0, .string ⟨#[]⟩, .int .i64 0, .int .i64 0] hZR infoCm rfl (by simp [Value.oneCell']) ?_
                have hZS := (setRow_other _ w.heap.size (w.heap.size + 1) #[.int .i64 c.office, .int .i64 c.hour, .int .i64 c.inn, .int .i64 c.out, .int .i64 c.store, .string c.prev, .int .i64 c.e, .int .i64 c.s] (by omega)).trans hZS
                have hZR := setRow_heap _ _ _ #[.int .i64 c.office, .int .i64 c.hour, .int .i64 c.inn, .int .i64 c.out, .int .i64 c.store, .string c.prev, .int .i64 c.e, .int .i64 c.s] _ _ hZR
                refine hK.out _ _ (hHeld.setOther hgR hnR _) (fun hHeld => ?_)
                clear hK K
                try simp only [Act.put]
                refine rd1 3 (fun K hK => ?_)
                rw [if_pos (by rfl)]
                refine wp_store_row 63 _ _ rfl (w.heap.size + 1) #[.int .i64 d.office, .int .i64 d.hour, .int .i64 d.inn, .int .i64 d.out, .int .i64 d.store, .string d.prev, .int .i64 d.e, .int .i64 d.s] rfl rfl 63 #[.int .i64 0, .int .i64 0, .int .i64 0, .int .i64 0, .int .i64 0, .string ⟨#[]⟩, .int .i64 0, .int .i64 0] hZS infoCm rfl (by simp [Value.oneCell']) ?_
                have hZR := (setRow_other _ (w.heap.size + 1) w.heap.size #[.int .i64 d.office, .int .i64 d.hour, .int .i64 d.inn, .int .i64 d.out, .int .i64 d.store, .string d.prev, .int .i64 d.e, .int .i64 d.s] (by omega)).trans hZR
                have hZS := setRow_heap _ _ _ #[.int .i64 d.office, .int .i64 d.hour, .int .i64 d.inn, .int .i64 d.out, .int .i64 d.store, .string d.prev, .int .i64 d.e, .int .i64 d.s] _ _ hZS
                refine hK.out _ _ (hHeld.setOther hgS hnS _) (fun hHeld => ?_)
                clear hK K
                try simp only [Act.put]
                refine tn 4 ?_
                try simp only [Act.put, aL1, aL2, aL3]
                refine rdone (NoPanic.normal ?_)
                have HRF := Lib.hid ((hHeld.cons hZS hgS hnS).cons hZR hgR (fun h => (List.mem_cons.1 h).elim (fun e => absurd e (Nat.ne_of_lt (Nat.lt_succ_self _))) hnR))
                clear hHeld hZS hZR hgS hgR hnS hnR
                go_wp2_with fail
                exact bodyPost_ret (v := .tuple #[.agg #[.int .i64 c.office, .int .i64 c.hour, .int .i64 c.inn, .int .i64 c.out, .int .i64 c.store, .string c.prev, .int .i64 c.e, .int .i64 c.s], .agg #[.int .i64 d.office, .int .i64 d.hour, .int .i64 d.inn, .int .i64 d.out, .int .i64 d.store, .string d.prev, .int .i64 d.e, .int .i64 d.s], .bool true]) (Eq.trans (results_rows_tmp rfl _ _ w.heap.size (w.heap.size + 1) 63 63 #[.int .i64 c.office, .int .i64 c.hour, .int .i64 c.inn, .int .i64 c.out, .int .i64 c.store, .string c.prev, .int .i64 c.e, .int .i64 c.s] #[.int .i64 d.office, .int .i64 d.hour, .int .i64 d.inn, .int .i64 d.out, .int .i64 d.store, .string d.prev, .int .i64 d.e, .int .i64 d.s] _ rfl (HRF.out.row 0 rfl) rfl (HRF.out.row 1 rfl) undCm rfl infoCm infoCm) rfl) rfl (retP_some HF.out HRF.out.below)
              | false =>
                have HUv := Lib.hid huv
                have HBD : Hid (∀ w0, Below w5.heap.size w5 w0 → Calls Tryz.prog 53 #[.pointer (some ⟨jb, 0, none⟩), .agg #[.int .i64 c.office, .int .i64 c.hour, .int .i64 c.inn, .int .i64 c.out, .int .i64 c.store, .string c.prev, .int .i64 c.e, .int .i64 c.s], .agg #[.int .i64 d.office, .int .i64 d.hour, .int .i64 d.inn, .int .i64 d.out, .int .i64 d.store, .string d.prev, .int .i64 d.e, .int .i64 d.s], .agg #[.int .i64 s.lo, .int .i64 s.hi]] w0 fun e w' => e = .returned (.bool false) ∧ Below w0.heap.size w0 w') := Lib.hid (fun w0 hb => by have h := unbalanced_any jb mb ar ap cr cp err room ps pubs c d s w0 (HJd5.out.below hb) hcn hdn hsI; rw [huv] at h; exact h)
                have HPP : Hid ((laterB (hoursF pubs) (netP j) (unbalB err)) c d = false) := Lib.hid ((HLI.out.2.2 s h1 HSs.out).trans huv)
                clear huv
                refine rd1 16 (fun K hK => ?_)
                go_simp
                refine (HBD.out _ hHeld.below).mono ?_
                rintro e w' ⟨rfl, hb⟩
                refine hK.out _ _ (hHeld.step hb) (fun hHeld => ?_)
                clear hK K
                try simp only [Act.put, aL1, aL2, aL3]
                refine tn 17 ?_
                try simp only [Act.put, aL1, aL2, aL3]
                refine rdone (NoPanic.normal ?_)
                have HR6 := Lib.hid (HR5.out.step hHeld.below)
                have HSO6 := Lib.hid (HSO5.out.below hHeld.below)
                have HSL6 := Lib.hid (HSL5.out.below stays_Span hHeld.below)
                have HJ6 := Lib.hid (HJd5.out.below hHeld.below)
                clear HR5 HSO5 HSL5 HJd5
                have HN2 : Hid (∀ (i : Nat) (y : CV), i < q + 1 → L[i]? = some y → (laterB (hoursF pubs) (netP j) (unbalB err)) c y = false) := Lib.hid (fun i y hi hy => by
                  by_cases e : i = q
                  · subst e; rw [HD.out] at hy; cases hy; exact HPP.out
                  · exact HND.out i y (by omega) hy)
                have HR7 := Lib.hid (HR6.out.take 3)
                clear HR6
                go_wp2_with fail
                go_roundw
                case rel => exact ⟨q + 1, by omega, by go_num, HN2.out, HSO6.out, HSL6.out, HJ6.out, HR7.out⟩
                case measure => simp [Go.RowKit.intOf]; omega
            · have h3 : ¬ (m : Int) < (Ls.length : Int) := by omega
              have HPP : Hid ((laterB (hoursF pubs) (netP j) (unbalB err)) c d = false) := Lib.hid (HLI.out.2.1 h1 (by rw [HMT.out]; exact h2))
              refine tn 6 ?_
              try simp only [Act.put, aL1, aL2, aL3]
              refine tn 7 ?_
              try simp only [Act.put, aL1, aL2, aL3]
              refine tn 8 ?_
              try simp only [Act.put, aL1, aL2, aL3]
              refine skn 1 [(9, some 68), (10, some 69), (11, some 70), (12, some 71), (13, some 72), (14, some 73), (15, some 74), (16, some 75)] ?_
              simp only [List.foldl_cons, List.foldl_nil, Act.put, aL1, aL2, aL3]
              refine tn 17 ?_
              try simp only [Act.put, aL1, aL2, aL3]
              refine rdone (NoPanic.normal ?_)
              have HR6 := Lib.hid (HR5.out.step hHeld.below)
              have HSO6 := Lib.hid (HSO5.out.below hHeld.below)
              have HSL6 := Lib.hid (HSL5.out.below stays_Span hHeld.below)
              have HJ6 := Lib.hid (HJd5.out.below hHeld.below)
              clear HR5 HSO5 HSL5 HJd5
              have HN2 : Hid (∀ (i : Nat) (y : CV), i < q + 1 → L[i]? = some y → (laterB (hoursF pubs) (netP j) (unbalB err)) c y = false) := Lib.hid (fun i y hi hy => by
                by_cases e : i = q
                · subst e; rw [HD.out] at hy; cases hy; exact HPP.out
                · exact HND.out i y (by omega) hy)
              have HR7 := Lib.hid (HR6.out.take 3)
              clear HR6
              go_wp2_with fail
              go_roundw
              case rel => exact ⟨q + 1, by omega, by go_num, HN2.out, HSO6.out, HSL6.out, HJ6.out, HR7.out⟩
              case measure => simp [Go.RowKit.intOf]; omega
          · have h0 : ¬ (0 : Int) < z := by have hz := HZ.out; omega
            have HPP : Hid ((laterB (hoursF pubs) (netP j) (unbalB err)) c d = false) := Lib.hid (HLI.out.1 h1)
            refine tn 1 ?_
            try simp only [Act.put, aL1, aL2, aL3]
            refine tn 2 ?_
            try simp only [Act.put, aL1, aL2, aL3]
            refine skn 11 [(3, some 62), (4, some 63), (5, some 64), (6, some 65)] ?_
            simp only [List.foldl_cons, List.foldl_nil, Act.put, aL1, aL2, aL3]
            refine tn 7 ?_
            try simp only [Act.put, aL1, aL2, aL3]
            refine tn 8 ?_
            try simp only [Act.put, aL1, aL2, aL3]
            refine skn 1 [(9, some 68), (10, some 69), (11, some 70), (12, some 71), (13, some 72), (14, some 73), (15, some 74), (16, some 75)] ?_
            simp only [List.foldl_cons, List.foldl_nil, Act.put, aL1, aL2, aL3]
            refine tn 17 ?_
            try simp only [Act.put, aL1, aL2, aL3]
            refine rdone (NoPanic.normal ?_)
            have HR6 := Lib.hid (HR5.out.step hHeld.below)
            have HSO6 := Lib.hid (HSO5.out.below hHeld.below)
            have HSL6 := Lib.hid (HSL5.out.below stays_Span hHeld.below)
            have HJ6 := Lib.hid (HJd5.out.below hHeld.below)
            clear HR5 HSO5 HSL5 HJd5
            have HN2 : Hid (∀ (i : Nat) (y : CV), i < q + 1 → L[i]? = some y → (laterB (hoursF pubs) (netP j) (unbalB err)) c y = false) := Lib.hid (fun i y hi hy => by
              by_cases e : i = q
              · subst e; rw [HD.out] at hy; cases hy; exact HPP.out
              · exact HND.out i y (by omega) hy)
            have HR7 := Lib.hid (HR6.out.take 3)
            clear HR6
            go_wp2_with fail
            go_roundw
            case rel => exact ⟨q + 1, by omega, by go_num, HN2.out, HSO6.out, HSL6.out, HJ6.out, HR7.out⟩
            case measure => simp [Go.RowKit.intOf]; omega
        · obtain rfl : q = L.length := by omega
          have HN2 : Hid (∀ (i : Nat) (x : CV), i < k + 1 → L[i]? = some x → ∀ y ∈ L, (laterB (hoursF pubs) (netP j) (unbalB err)) x y = false) := Lib.hid (fun i x hi hx y hy => by
            by_cases e : i = k
            · subst e
              rw [HC.out] at hx
              cases hx
              obtain ⟨q, hq⟩ := List.getElem?_of_mem hy
              exact HND.out q y (List.getElem?_eq_some_iff.1 hq).1 hq
            · exact HNO.out i x (by omega) hx y hy)
          have HR6 := Lib.hid (HR3.out.take 2)
          clear HR3 hlq hq
          go_wp2_with fail
          go_roundw
          case rel => exact ⟨k + 1, by omega, by go_num, HN2.out, HR6.out⟩
          case measure => simp [Go.RowKit.intOf]; omega
    · obtain rfl : k = L.length := by omega
      have HF := Lib.hid (first2_none HNO.out)
      clear hlt hk
      go_wp2_with (first | (refine wpList_store_row rfl 63 _ _ rfl w.heap.size #[.int .i64 0, .int .i64 0, .int .i64 0, .int .i64 0, .int .i64 0, .string ⟨#[]⟩, .int .i64 0, .int .i64 0] rfl rfl 63 #[.int .i64 0, .int .i64 0, .int .i64 0, .int .i64 0, .int .i64 0, .string ⟨#[]⟩, .int .i64 0, .int .i64 0] (HR1.out.row 0 rfl) infoCm rfl (by simp [Value.oneCell']) ?_) | (refine wpList_store_row rfl 63 _ _ rfl (w.heap.size + 1) #[.int .i64 0, .int .i64 0, .int .i64 0, .int .i64 0, .int .i64 0, .string ⟨#[]⟩, .int .i64 0, .int .i64 0] rfl rfl 63 #[.int .i64 0, .int .i64 0, .int .i64 0, .int .i64 0, .int .i64 0, .string ⟨#[]⟩, .int .i64 0, .int .i64 0] ((HR1.out.set (i := 0) (cs' := #[.int .i64 0, .int .i64 0, .int .i64 0, .int .i64 0, .int .i64 0, .string ⟨#[]⟩, .int .i64 0, .int .i64 0]) rfl).row 1 rfl) infoCm rfl (by simp [Value.oneCell']) ?_))
      have HRZ := Lib.hid ((HR1.out.set (i := 0) (cs' := #[.int .i64 0, .int .i64 0, .int .i64 0, .int .i64 0, .int .i64 0, .string ⟨#[]⟩, .int .i64 0, .int .i64 0]) rfl).set (i := 1) (cs' := #[.int .i64 0, .int .i64 0, .int .i64 0, .int .i64 0, .int .i64 0, .string ⟨#[]⟩, .int .i64 0, .int .i64 0]) rfl)
      exact bodyPost_ret (v := .tuple #[.agg #[.int .i64 0, .int .i64 0, .int .i64 0, .int .i64 0, .int .i64 0, .string ⟨#[]⟩, .int .i64 0, .int .i64 0], .agg #[.int .i64 0, .int .i64 0, .int .i64 0, .int .i64 0, .int .i64 0, .string ⟨#[]⟩, .int .i64 0, .int .i64 0], .bool false]) (Eq.trans (results_rows_tmp rfl _ _ w.heap.size (w.heap.size + 1) 63 63 #[.int .i64 0, .int .i64 0, .int .i64 0, .int .i64 0, .int .i64 0, .string ⟨#[]⟩, .int .i64 0, .int .i64 0] #[.int .i64 0, .int .i64 0, .int .i64 0, .int .i64 0, .int .i64 0, .string ⟨#[]⟩, .int .i64 0, .int .i64 0] _ rfl (HRZ.out.row 0 rfl) rfl (HRZ.out.row 1 rfl) undCm rfl infoCm infoCm) rfl) rfl (retP_none HF.out HRZ.out.below)
end Go.Proofs.YtjbjpkhibcnenaaGreatDoor

