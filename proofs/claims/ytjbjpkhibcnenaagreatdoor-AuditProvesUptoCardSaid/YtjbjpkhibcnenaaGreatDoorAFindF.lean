/- audit.Find: both. -/
import Derived.Test.YtjbjpkhibcnenaaGreatDoorAFindE
namespace Go.Proofs.YtjbjpkhibcnenaaGreatDoor
open Go.RowKit
/-- a search in memory -/
structure SearchAt (sb jb : Nat) (a0 a1 a2 av : Option Addr) (k0 k1 k2 kv : Nat) (L0 L1 L2 : List CV) (vs : List PV) (last : Int) (w : World) : Prop where
  row : w.heap[sb]? = some (.cells #[.pointer (some ⟨jb, 0, none⟩), .slice a0 L0.length k0, .slice a1 L1.length k1, .slice a2 L2.length k2, .slice av vs.length kv, .int .i64 last] 99 (0, 0))
  l0 : LArg RC 8 (.slice a0 L0.length k0) L0 w
  l1 : LArg RC 8 (.slice a1 L1.length k1) L1 w
  l2 : LArg RC 8 (.slice a2 L2.length k2) L2 w
  lv : LArg RP 6 (.slice av vs.length kv) vs w
  n0 : L0.length ≤ 1000
  n1 : L1.length ≤ 1000
  n2 : L2.length ≤ 1000
  nv : vs.length ≤ 1000
  g0 : ∀ c ∈ L0, CNum c ∧ 0 ≤ c.hour ∧ c.hour ≤ last ∧ c.office = ((0 : Nat) : Int)
  g1 : ∀ c ∈ L1, CNum c ∧ 0 ≤ c.hour ∧ c.hour ≤ last ∧ c.office = ((1 : Nat) : Int)
  g2 : ∀ c ∈ L2, CNum c ∧ 0 ≤ c.hour ∧ c.hour ≤ last ∧ c.office = ((2 : Nat) : Int)
  la : last ≤ 16777216
theorem SearchAt.below {sb jb : Nat} {a0 a1 a2 av : Option Addr} {k0 k1 k2 kv : Nat} {L0 L1 L2 : List CV} {vs : List PV} {last : Int} {w w' : World} (h : SearchAt sb jb a0 a1 a2 av k0 k1 k2 kv L0 L1 L2 vs last w) (hb : Below w.heap.size w w') : SearchAt sb jb a0 a1 a2 av k0 k1 k2 kv L0 L1 L2 vs last w' :=
  ⟨blk_below h.row hb (blk_lt h.row), h.l0.below stays_RC hb, h.l1.below stays_RC hb, h.l2.below stays_RC hb, h.lv.below stays_RP hb, h.n0, h.n1, h.n2, h.nv, h.g0, h.g1, h.g2, h.la⟩
theorem SearchAt.s0 {sb jb : Nat} {a0 a1 a2 av : Option Addr} {k0 k1 k2 kv : Nat} {L0 L1 L2 : List CV} {vs : List PV} {last : Int} {w : World} (h : SearchAt sb jb a0 a1 a2 av k0 k1 k2 kv L0 L1 L2 vs last w) : SOf sb jb 0 a0 k0 L0 last w :=
  ⟨blk_lt h.row, rowN h.row 0 _ rfl, rowN h.row 1 _ rfl, rowN h.row 5 _ rfl, h.l0, h.n0, h.g0, h.la, by decide⟩
theorem SearchAt.s1 {sb jb : Nat} {a0 a1 a2 av : Option Addr} {k0 k1 k2 kv : Nat} {L0 L1 L2 : List CV} {vs : List PV} {last : Int} {w : World} (h : SearchAt sb jb a0 a1 a2 av k0 k1 k2 kv L0 L1 L2 vs last w) : SOf sb jb 1 a1 k1 L1 last w :=
  ⟨blk_lt h.row, rowN h.row 0 _ rfl, rowN h.row 2 _ rfl, rowN h.row 5 _ rfl, h.l1, h.n1, h.g1, h.la, by decide⟩
theorem SearchAt.s2 {sb jb : Nat} {a0 a1 a2 av : Option Addr} {k0 k1 k2 kv : Nat} {L0 L1 L2 : List CV} {vs : List PV} {last : Int} {w : World} (h : SearchAt sb jb a0 a1 a2 av k0 k1 k2 kv L0 L1 L2 vs last w) : SOf sb jb 2 a2 k2 L2 last w :=
  ⟨blk_lt h.row, rowN h.row 0 _ rfl, rowN h.row 3 _ rfl, rowN h.row 5 _ rfl, h.l2, h.n2, h.g2, h.la, by decide⟩
def bothR (R Q : Option (CV × CV)) : Option BlV := match R, Q with | some (c, d), some (e, f) => some ⟨1, 4, [c, d, e, f], zeroP⟩ | _, _ => none
theorem bothR_none1 {R Q : Option (CV × CV)} (h : R = none) : bothR R Q = none := by subst h; rfl
theorem bothR_none2 {R Q : Option (CV × CV)} (h : Q = none) : bothR R Q = none := by subst h; cases R <;> rfl
theorem bothR_some {R Q : Option (CV × CV)} {x y u v : CV} (h : R = some (x, y)) (h2 : Q = some (u, v)) : bothR R Q = some ⟨1, 4, [x, y, u, v], zeroP⟩ := by subst h; subst h2; rfl
set_option maxRecDepth 100000 in
set_option maxHeartbeats 8000000 in
theorem both_any (jb mb : Nat) (ar ap : Option Addr) (cr cp : Nat) (err : Int) (room ps : List Int) (pubs : List PublicV) (sb : Nat) (a0 a1 a2 av : Option Addr) (k0 k1 k2 kv : Nat) (L0 L1 L2 : List CV) (vs : List PV) (last : Int) (o : Int) (w : World) (hJ : JudgeAt jb mb ar ap cr cp err room ps pubs w) (hS : SearchAt sb jb a0 a1 a2 av k0 k1 k2 kv L0 L1 L2 vs last w) :
    Calls Tryz.prog 28 #[.pointer (some ⟨sb, 0, none⟩), .int .i64 o] w (RetF (if o = 1 then bothR (first2 (disB (judgeV err room ps pubs)) L0 L1) (first2 (disB (judgeV err room ps pubs)) L1 L2) else none) w) := by
  have HJd := Lib.hid hJ
  have HS := Lib.hid hS
  have HSR := Lib.hid hS.row
  have HR0 := Lib.hid ((RowsS.nil w).alloc (.cells #[.int .i64 0, .int .i64 0, .slice none 0 0, .int .i64 0, .int .i64 0, .int .i64 0, .int .i64 0, .int .i64 0, .int .i64 0] 40))
  clear hJ hS
  by_cases ho : o = 1
  · have q1 : (o != 1) = false := by rw [bne_eq_false_iff_eq]; exact ho
    have q2 : (o == 1) = true := by rw [beq_iff_eq]; exact ho
    have q3 : decide (o = 1) = true := decide_eq_true ho
    rw [if_pos ho]
    have HO := Lib.hid ho
    clear ho
    obtain ⟨x, y, r, hq1⟩ := pairIs (first2 (disB (judgeV err room ps pubs)) L0 L1)
    obtain ⟨u, v, s, hq2⟩ := pairIs (first2 (disB (judgeV err room ps pubs)) L1 L2)
    have HB1 : Hid (∀ w0, Below w.heap.size w w0 → Calls Tryz.prog 57 #[.slice a0 L0.length k0, .slice a1 L1.length k1, .func (.func 58) #[.pointer (some ⟨jb, 0, none⟩)] #[]] w0 fun e w' => e = .returned (.tuple #[.agg #[.int .i64 x.office, .int .i64 x.hour, .int .i64 x.inn, .int .i64 x.out, .int .i64 x.store, .string x.prev, .int .i64 x.e, .int .i64 x.s], .agg #[.int .i64 y.office, .int .i64 y.hour, .int .i64 y.inn, .int .i64 y.out, .int .i64 y.store, .string y.prev, .int .i64 y.e, .int .i64 y.s], .bool r]) ∧ Below w0.heap.size w0 w') := Lib.hid (fun w0 hb => (boundaryD_any (disB (judgeV err room ps pubs)) L0 L1 (.slice a0 L0.length k0) (.slice a1 L1.length k1) jb w0 (HS.out.l0.below stays_RC hb) (HS.out.l1.below stays_RC hb) HS.out.n0 HS.out.n1 (fun w1 hb1 c hc d hd => disagree_any jb mb ar ap cr cp err room ps pubs (hoursF pubs) (kB ps) (vB ps) c d w1 (HJd.out.below (hb.trans (hb1.mono hb.size))) (HS.out.g0 c hc).1 (HS.out.g1 d hd).1)).mono (fun e w' h => hq1.ret h))
    have HB2 : Hid (∀ w0, Below w.heap.size w w0 → Calls Tryz.prog 57 #[.slice a1 L1.length k1, .slice a2 L2.length k2, .func (.func 58) #[.pointer (some ⟨jb, 0, none⟩)] #[]] w0 fun e w' => e = .returned (.tuple #[.agg #[.int .i64 u.office, .int .i64 u.hour, .int .i64 u.inn, .int .i64 u.out, .int .i64 u.store, .string u.prev, .int .i64 u.e, .int .i64 u.s], .agg #[.int .i64 v.office, .int .i64 v.hour, .int .i64 v.inn, .int .i64 v.out, .int .i64 v.store, .string v.prev, .int .i64 v.e, .int .i64 v.s], .bool s]) ∧ Below w0.heap.size w0 w') := Lib.hid (fun w0 hb => (boundaryD_any (disB (judgeV err room ps pubs)) L1 L2 (.slice a1 L1.length k1) (.slice a2 L2.length k2) jb w0 (HS.out.l1.below stays_RC hb) (HS.out.l2.below stays_RC hb) HS.out.n1 HS.out.n2 (fun w1 hb1 c hc d hd => disagree_any jb mb ar ap cr cp err room ps pubs (hoursF pubs) (kB ps) (vB ps) c d w1 (HJd.out.below (hb.trans (hb1.mono hb.size))) (HS.out.g1 c hc).1 (HS.out.g2 d hd).1)).mono (fun e w' h => hq2.ret h))
    have HQ1 := Lib.hid hq1
    have HQ2 := Lib.hid hq2
    clear hq1 hq2
    go_enter Tryz.func28, Tryz.ntmps28
    go_upto_region 1 with fail
    generalize w.alloc (.cells #[.int .i64 0, .int .i64 0, .slice none 0 0, .int .i64 0, .int .i64 0, .int .i64 0, .int .i64 0, .int .i64 0, .int .i64 0] 40) = w0 at *
    go_upto_region 3 with fail
    go_cut [6, 7, 8] (fun s6 s7 s8 wx => ∃ bX bY, s6 = .pointer (some ⟨bX, 0, none⟩) ∧ s7 = .pointer (some ⟨bY, 0, none⟩) ∧ s8 = .bool r ∧ RowsS w [(bX, .cells #[.int .i64 x.office, .int .i64 x.hour, .int .i64 x.inn, .int .i64 x.out, .int .i64 x.store, .string x.prev, .int .i64 x.e, .int .i64 x.s] 63), (bY, .cells #[.int .i64 y.office, .int .i64 y.hour, .int .i64 y.inn, .int .i64 y.out, .int .i64 y.store, .string y.prev, .int .i64 y.e, .int .i64 y.s] 63), (w.heap.size, .cells #[.int .i64 0, .int .i64 0, .slice none 0 0, .int .i64 0, .int .i64 0, .int .i64 0, .int .i64 0, .int .i64 0, .int .i64 0] 40)] wx)
    case first =>
      refine wp_region_noPanic ?_
      refine wp_region_held_drew (S := fun cw => RowsS w [(w.heap.size, .cells #[.int .i64 0, .int .i64 0, .slice none 0 0, .int .i64 0, .int .i64 0, .int .i64 0, .int .i64 0, .int .i64 0, .int .i64 0] 40)] cw) (by kernel_rfl) (HR0.out.drew) (fun hHeld => ?_)
      refine tn 0 ?_
      try simp only [Act.put, aL1, aL2, aL3]
      refine tn 1 ?_
      try simp only [Act.put, aL1, aL2, aL3]
      refine tn 2 ?_
      try simp only [Act.put, aL1, aL2, aL3]
      refine tn 3 ?_
      try simp only [Act.put, aL1, aL2, aL3]
      refine tn 4 ?_ (hx := fun wz hSw => by have e4 := hSw.old HSR 1 rfl; go_simp; try with_reducible rfl)
      try simp only [Act.put, aL1, aL2, aL3]
      refine tn 5 ?_
      try simp only [Act.put, aL1, aL2, aL3]
      refine tn 6 ?_
      try simp only [Act.put, aL1, aL2, aL3]
      refine tn 7 ?_
      try simp only [Act.put, aL1, aL2, aL3]
      refine tn 8 ?_
      try simp only [Act.put, aL1, aL2, aL3]
      refine tn 9 ?_ (hx := fun wz hSw => by have e4 := hSw.old HSR 2 rfl; go_simp; try with_reducible rfl)
      try simp only [Act.put, aL1, aL2, aL3]
      refine tn 10 ?_
      try simp only [Act.put, aL1, aL2, aL3]
      refine tn 11 ?_
      try simp only [Act.put, aL1, aL2, aL3]
      refine tn 12 ?_
      try simp only [Act.put, aL1, aL2, aL3]
      refine tn 13 ?_ (hx := fun wz hSw => by have e4 := hSw.old HSR 0 rfl; go_simp; try with_reducible rfl)
      try simp only [Act.put, aL1, aL2, aL3]
      refine tn 14 ?_
      try simp only [Act.put, aL1, aL2, aL3]
      refine rd3 15 20 21 (fun K hK => ?_) (fun K hK => ?_) (fun K hK => ?_)
      go_simp
      refine (HB1.out _ hHeld.below).mono ?_
      rintro e w' ⟨rfl, hb⟩
      refine hK.out _ _ (hHeld.step hb) (fun hHeld => ?_)
      clear hK K
      try simp only [Act.put, aL1, aL2, aL3]
      refine tn 16 ?_
      try simp only [Act.put, aL1, aL2, aL3]
      refine tn 17 ?_
      try simp only [Act.put, aL1, aL2, aL3]
      refine tn 18 ?_
      try simp only [Act.put, aL1, aL2, aL3]
      refine tn 19 ?_
      try simp only [Act.put, aL1, aL2, aL3]
      refine rd2 20 21 (fun K hK => ?_) (fun K hK => ?_)
      go_simp
      obtain ⟨bX, hbe, hS1, hZX, hgX, hnX, hbA⟩ := hHeld.allocB (.cells #[.int .i64 0, .int .i64 0, .int .i64 0, .int .i64 0, .int .i64 0, .string ⟨#[]⟩, .int .i64 0, .int .i64 0] 63)
      try simp only [World.alloc, Array.size_push] at hbe
      rw [← hbe]
      refine hK.out _ _ hS1 (fun hHeld => ?_)
      clear hK K hS1 hbe hbA
      try simp only [Act.put, aL1, aL2, aL3]
      refine rd1 21 (fun K hK => ?_)
      go_simp
      obtain ⟨bY, hbe, hS1, hZY, hgY, hnY, hbA⟩ := hHeld.allocB (.cells #[.int .i64 0, .int .i64 0, .int .i64 0, .int .i64 0, .int .i64 0, .string ⟨#[]⟩, .int .i64 0, .int .i64 0] 63)
      have hxXY : bX ≠ bY := by rw [hbe]; exact Nat.ne_of_lt (blk_lt hZX)
      have hZX := (hbA.block bX (blk_lt hZX)).trans hZX
      try simp only [World.alloc, Array.size_push] at hbe
      rw [← hbe]
      refine hK.out _ _ hS1 (fun hHeld => ?_)
      clear hK K hS1 hbe hbA
      try simp only [Act.put, aL1, aL2, aL3]
      rotate_left
      go_simp
      obtain ⟨bY, hbe, hS1, hZY, hgY, hnY, hbA⟩ := hHeld.allocB (.cells #[.int .i64 0, .int .i64 0, .int .i64 0, .int .i64 0, .int .i64 0, .string ⟨#[]⟩, .int .i64 0, .int .i64 0] 63)
      try simp only [World.alloc, Array.size_push] at hbe
      rw [← hbe]
      refine hK.out _ _ hS1 (fun hHeld => ?_)
      clear hK K hS1 hbe hbA
      try simp only [Act.put, aL1, aL2, aL3]
      refine rd1 20 (fun K hK => ?_)
      go_simp
      obtain ⟨bX, hbe, hS1, hZX, hgX, hnX, hbA⟩ := hHeld.allocB (.cells #[.int .i64 0, .int .i64 0, .int .i64 0, .int .i64 0, .int .i64 0, .string ⟨#[]⟩, .int .i64 0, .int .i64 0] 63)
      have hxXY : bX ≠ bY := by rw [hbe]; exact (Nat.ne_of_lt (blk_lt hZY)).symm
      have hZY := (hbA.block bY (blk_lt hZY)).trans hZY
      try simp only [World.alloc, Array.size_push] at hbe
      rw [← hbe]
      refine hK.out _ _ hS1 (fun hHeld => ?_)
      clear hK K hS1 hbe hbA
      try simp only [Act.put, aL1, aL2, aL3]
      rotate_left
      go_simp
      obtain ⟨bX, hbe, hS1, hZX, hgX, hnX, hbA⟩ := hHeld.allocBD (.cells #[.int .i64 0, .int .i64 0, .int .i64 0, .int .i64 0, .int .i64 0, .string ⟨#[]⟩, .int .i64 0, .int .i64 0] 63)
      try simp only [World.alloc, Array.size_push] at hbe
      rw [← hbe]
      refine hK.out _ _ hS1 (fun hHeld => ?_)
      clear hK K hS1 hbe hbA
      try simp only [Act.put, aL1, aL2, aL3]
      refine rd2 15 21 (fun K hK => ?_) (fun K hK => ?_)
      go_simp
      refine (HB1.out _ hHeld.below).mono ?_
      rintro e w' ⟨rfl, hb⟩
      have hZX := (hb.block bX (blk_lt hZX)).trans hZX
      refine hK.out _ _ (hHeld.step hb) (fun hHeld => ?_)
      clear hK K
      try simp only [Act.put, aL1, aL2, aL3]
      refine tn 16 ?_
      try simp only [Act.put, aL1, aL2, aL3]
      refine tn 17 ?_
      try simp only [Act.put, aL1, aL2, aL3]
      refine tn 18 ?_
      try simp only [Act.put, aL1, aL2, aL3]
      refine tn 19 ?_
      try simp only [Act.put, aL1, aL2, aL3]
      refine rd1 21 (fun K hK => ?_)
      go_simp
      obtain ⟨bY, hbe, hS1, hZY, hgY, hnY, hbA⟩ := hHeld.allocB (.cells #[.int .i64 0, .int .i64 0, .int .i64 0, .int .i64 0, .int .i64 0, .string ⟨#[]⟩, .int .i64 0, .int .i64 0] 63)
      have hxXY : bX ≠ bY := by rw [hbe]; exact Nat.ne_of_lt (blk_lt hZX)
      have hZX := (hbA.block bX (blk_lt hZX)).trans hZX
      try simp only [World.alloc, Array.size_push] at hbe
      rw [← hbe]
      refine hK.out _ _ hS1 (fun hHeld => ?_)
      clear hK K hS1 hbe hbA
      try simp only [Act.put, aL1, aL2, aL3]
      rotate_left
      go_simp
      obtain ⟨bY, hbe, hS1, hZY, hgY, hnY, hbA⟩ := hHeld.allocBD (.cells #[.int .i64 0, .int .i64 0, .int .i64 0, .int .i64 0, .int .i64 0, .string ⟨#[]⟩, .int .i64 0, .int .i64 0] 63)
      have hxXY : bX ≠ bY := by rw [hbe]; exact Nat.ne_of_lt (blk_lt hZX)
      have hZX := (hbA.block bX (blk_lt hZX)).trans hZX
      try simp only [World.alloc, Array.size_push] at hbe
      rw [← hbe]
      refine hK.out _ _ hS1 (fun hHeld => ?_)
      clear hK K hS1 hbe hbA
      try simp only [Act.put, aL1, aL2, aL3]
      refine rd1 15 (fun K hK => ?_)
      go_simp
      refine (HB1.out _ hHeld.below).mono ?_
      rintro e w' ⟨rfl, hb⟩
      have hZX := (hb.block bX (blk_lt hZX)).trans hZX
      have hZY := (hb.block bY (blk_lt hZY)).trans hZY
      refine hK.out _ _ (hHeld.step hb) (fun hHeld => ?_)
      clear hK K
      try simp only [Act.put, aL1, aL2, aL3]
      refine tn 16 ?_
      try simp only [Act.put, aL1, aL2, aL3]
      refine tn 17 ?_
      try simp only [Act.put, aL1, aL2, aL3]
      refine tn 18 ?_
      try simp only [Act.put, aL1, aL2, aL3]
      refine tn 19 ?_
      try simp only [Act.put, aL1, aL2, aL3]
      rotate_left
      go_simp
      obtain ⟨bY, hbe, hS1, hZY, hgY, hnY, hbA⟩ := hHeld.allocBD (.cells #[.int .i64 0, .int .i64 0, .int .i64 0, .int .i64 0, .int .i64 0, .string ⟨#[]⟩, .int .i64 0, .int .i64 0] 63)
      try simp only [World.alloc, Array.size_push] at hbe
      rw [← hbe]
      refine hK.out _ _ hS1 (fun hHeld => ?_)
      clear hK K hS1 hbe hbA
      try simp only [Act.put, aL1, aL2, aL3]
      refine rd2 15 20 (fun K hK => ?_) (fun K hK => ?_)
      go_simp
      refine (HB1.out _ hHeld.below).mono ?_
      rintro e w' ⟨rfl, hb⟩
      have hZY := (hb.block bY (blk_lt hZY)).trans hZY
      refine hK.out _ _ (hHeld.step hb) (fun hHeld => ?_)
      clear hK K
      try simp only [Act.put, aL1, aL2, aL3]
      refine tn 16 ?_
      try simp only [Act.put, aL1, aL2, aL3]
      refine tn 17 ?_
      try simp only [Act.put, aL1, aL2, aL3]
      refine tn 18 ?_
      try simp only [Act.put, aL1, aL2, aL3]
      refine tn 19 ?_
      try simp only [Act.put, aL1, aL2, aL3]
      refine rd1 20 (fun K hK => ?_)
      go_simp
      obtain ⟨bX, hbe, hS1, hZX, hgX, hnX, hbA⟩ := hHeld.allocB (.cells #[.int .i64 0, .int .i64 0, .int .i64 0, .int .i64 0, .int .i64 0, .string ⟨#[]⟩, .int .i64 0, .int .i64 0] 63)
      have hxXY : bX ≠ bY := by rw [hbe]; exact (Nat.ne_of_lt (blk_lt hZY)).symm
      have hZY := (hbA.block bY (blk_lt hZY)).trans hZY
      try simp only [World.alloc, Array.size_push] at hbe
      rw [← hbe]
      refine hK.out _ _ hS1 (fun hHeld => ?_)
      clear hK K hS1 hbe hbA
      try simp only [Act.put, aL1, aL2, aL3]
      rotate_left
      go_simp
      obtain ⟨bX, hbe, hS1, hZX, hgX, hnX, hbA⟩ := hHeld.allocBD (.cells #[.int .i64 0, .int .i64 0, .int .i64 0, .int .i64 0, .int .i64 0, .string ⟨#[]⟩, .int .i64 0, .int .i64 0] 63)
      have hxXY : bX ≠ bY := by rw [hbe]; exact (Nat.ne_of_lt (blk_lt hZY)).symm
      have hZY := (hbA.block bY (blk_lt hZY)).trans hZY
      try simp only [World.alloc, Array.size_push] at hbe
      rw [← hbe]
      refine hK.out _ _ hS1 (fun hHeld => ?_)
      clear hK K hS1 hbe hbA
      try simp only [Act.put, aL1, aL2, aL3]
      refine rd1 15 (fun K hK => ?_)
      go_simp
      refine (HB1.out _ hHeld.below).mono ?_
      rintro e w' ⟨rfl, hb⟩
      have hZX := (hb.block bX (blk_lt hZX)).trans hZX
      have hZY := (hb.block bY (blk_lt hZY)).trans hZY
      refine hK.out _ _ (hHeld.step hb) (fun hHeld => ?_)
      clear hK K
      try simp only [Act.put, aL1, aL2, aL3]
      refine tn 16 ?_
      try simp only [Act.put, aL1, aL2, aL3]
      refine tn 17 ?_
      try simp only [Act.put, aL1, aL2, aL3]
      refine tn 18 ?_
      try simp only [Act.put, aL1, aL2, aL3]
      refine tn 19 ?_
      try simp only [Act.put, aL1, aL2, aL3]
      rotate_left
      all_goals
        refine rd1 22 (fun K hK => ?_)
        rw [if_pos (by rfl)]
        refine wp_store_row 63 _ _ rfl bX #[.int .i64 x.office, .int .i64 x.hour, .int .i64 x.inn, .int .i64 x.out, .int .i64 x.store, .string x.prev, .int .i64 x.e, .int .i64 x.s] rfl rfl 63 #[.int .i64 0, .int .i64 0, .int .i64 0, .int .i64 0, .int .i64 0, .string ⟨#[]⟩, .int .i64 0, .int .i64 0] hZX infoCm rfl (by simp [Value.oneCell']) ?_
        have hZY := (setRow_other _ bX bY #[.int .i64 x.office, .int .i64 x.hour, .int .i64 x.inn, .int .i64 x.out, .int .i64 x.store, .string x.prev, .int .i64 x.e, .int .i64 x.s] (hxXY.symm)).trans hZY
        have hZX := setRow_heap _ _ _ #[.int .i64 x.office, .int .i64 x.hour, .int .i64 x.inn, .int .i64 x.out, .int .i64 x.store, .string x.prev, .int .i64 x.e, .int .i64 x.s] _ _ hZX
        refine hK.out _ _ (hHeld.setOther hgX hnX _) (fun hHeld => ?_)
        clear hK K
        try simp only [Act.put]
        refine rd1 23 (fun K hK => ?_)
        rw [if_pos (by rfl)]
        refine wp_store_row 63 _ _ rfl bY #[.int .i64 y.office, .int .i64 y.hour, .int .i64 y.inn, .int .i64 y.out, .int .i64 y.store, .string y.prev, .int .i64 y.e, .int .i64 y.s] rfl rfl 63 #[.int .i64 0, .int .i64 0, .int .i64 0, .int .i64 0, .int .i64 0, .string ⟨#[]⟩, .int .i64 0, .int .i64 0] hZY infoCm rfl (by simp [Value.oneCell']) ?_
        have hZX := (setRow_other _ bY bX #[.int .i64 y.office, .int .i64 y.hour, .int .i64 y.inn, .int .i64 y.out, .int .i64 y.store, .string y.prev, .int .i64 y.e, .int .i64 y.s] (hxXY)).trans hZX
        have hZY := setRow_heap _ _ _ #[.int .i64 y.office, .int .i64 y.hour, .int .i64 y.inn, .int .i64 y.out, .int .i64 y.store, .string y.prev, .int .i64 y.e, .int .i64 y.s] _ _ hZY
        refine hK.out _ _ (hHeld.setOther hgY hnY _) (fun hHeld => ?_)
        clear hK K
        try simp only [Act.put]
        refine tn 24 ?_
        try simp only [Act.put, aL1, aL2, aL3]
        refine rdone (NoPanic.normal ?_)
        have HRL := Lib.hid ((hHeld.cons hZY hgY hnY).cons hZX hgX (fun h => (List.mem_cons.1 h).elim (fun e => hxXY e) hnX))
        go_wp2_with fail
        go_meet
        exact ⟨bX, bY, rfl, rfl, rfl, HRL.out⟩
    obtain ⟨bX, bY, rfl, rfl, rfl, hr2⟩ := hcut
    have HR2 := Lib.hid hr2
    clear hr2 HR0
    rcases HQ1.out with ⟨hf2, -, -, rfl⟩ | ⟨hf2, rfl⟩
    · have HF : Hid (bothR (first2 (disB (judgeV err room ps pubs)) L0 L1) (first2 (disB (judgeV err room ps pubs)) L1 L2) = none) := Lib.hid (bothR_none1 hf2)
      clear hf2
      go_wp2_with (refine wpList_store_row rfl 40 _ _ rfl w.heap.size #[.int .i64 0, .int .i64 0, .slice none 0 0, .int .i64 0, .int .i64 0, .int .i64 0, .int .i64 0, .int .i64 0, .int .i64 0] rfl rfl 40 #[.int .i64 0, .int .i64 0, .slice none 0 0, .int .i64 0, .int .i64 0, .int .i64 0, .int .i64 0, .int .i64 0, .int .i64 0] (HR2.out.row 2 rfl) infoBl rfl (by simp [Value.oneCell']) ?_)
      have HRZ := Lib.hid (HR2.out.set (i := 2) (cs' := #[.int .i64 0, .int .i64 0, .slice none 0 0, .int .i64 0, .int .i64 0, .int .i64 0, .int .i64 0, .int .i64 0, .int .i64 0]) rfl)
      exact bodyPost_ret (v := .tuple #[.agg #[.int .i64 0, .int .i64 0, .slice none 0 0, .int .i64 0, .int .i64 0, .int .i64 0, .int .i64 0, .int .i64 0, .int .i64 0], .bool false]) (Eq.trans (results_row_tmp rfl _ _ w.heap.size 40 #[.int .i64 0, .int .i64 0, .slice none 0 0, .int .i64 0, .int .i64 0, .int .i64 0, .int .i64 0, .int .i64 0, .int .i64 0] (0, 0) _ rfl (HRZ.out.row 2 rfl) undBl rfl infoBl) rfl) rfl (retF_none HF.out HRZ.out.below)
    · have HF1 := Lib.hid hf2
      clear hf2
      go_upto_region 6 with fail
      go_cut [8, 9, 10] (fun s8 s9 s10 wx => ∃ bU bV, s9 = .pointer (some ⟨bU, 0, none⟩) ∧ s10 = .pointer (some ⟨bV, 0, none⟩) ∧ s8 = .bool s ∧ RowsS w [(bU, .cells #[.int .i64 u.office, .int .i64 u.hour, .int .i64 u.inn, .int .i64 u.out, .int .i64 u.store, .string u.prev, .int .i64 u.e, .int .i64 u.s] 63), (bV, .cells #[.int .i64 v.office, .int .i64 v.hour, .int .i64 v.inn, .int .i64 v.out, .int .i64 v.store, .string v.prev, .int .i64 v.e, .int .i64 v.s] 63), (bX, .cells #[.int .i64 x.office, .int .i64 x.hour, .int .i64 x.inn, .int .i64 x.out, .int .i64 x.store, .string x.prev, .int .i64 x.e, .int .i64 x.s] 63), (bY, .cells #[.int .i64 y.office, .int .i64 y.hour, .int .i64 y.inn, .int .i64 y.out, .int .i64 y.store, .string y.prev, .int .i64 y.e, .int .i64 y.s] 63), (w.heap.size, .cells #[.int .i64 0, .int .i64 0, .slice none 0 0, .int .i64 0, .int .i64 0, .int .i64 0, .int .i64 0, .int .i64 0, .int .i64 0] 40)] wx)
      case first =>
        refine wp_region_noPanic ?_
        refine wp_region_held_drew (S := fun cw => RowsS w [(bX, .cells #[.int .i64 x.office, .int .i64 x.hour, .int .i64 x.inn, .int .i64 x.out, .int .i64 x.store, .string x.prev, .int .i64 x.e, .int .i64 x.s] 63), (bY, .cells #[.int .i64 y.office, .int .i64 y.hour, .int .i64 y.inn, .int .i64 y.out, .int .i64 y.store, .string y.prev, .int .i64 y.e, .int .i64 y.s] 63), (w.heap.size, .cells #[.int .i64 0, .int .i64 0, .slice none 0 0, .int .i64 0, .int .i64 0, .int .i64 0, .int .i64 0, .int .i64 0, .int .i64 0] 40)] cw) (by kernel_rfl) (HR2.out.drew) (fun hHeld => ?_)
        refine tn 0 ?_
        try simp only [Act.put, aL1, aL2, aL3]
        refine tn 1 ?_
        try simp only [Act.put, aL1, aL2, aL3]
        refine tn 2 ?_
        try simp only [Act.put, aL1, aL2, aL3]
        refine tn 3 ?_
        try simp only [Act.put, aL1, aL2, aL3]
        refine tn 4 ?_ (hx := fun wz hSw => by have e4 := hSw.old HSR 2 rfl; go_simp; try with_reducible rfl)
        try simp only [Act.put, aL1, aL2, aL3]
        refine tn 5 ?_
        try simp only [Act.put, aL1, aL2, aL3]
        refine tn 6 ?_
        try simp only [Act.put, aL1, aL2, aL3]
        refine tn 7 ?_
        try simp only [Act.put, aL1, aL2, aL3]
        refine tn 8 ?_
        try simp only [Act.put, aL1, aL2, aL3]
        refine tn 9 ?_ (hx := fun wz hSw => by have e4 := hSw.old HSR 3 rfl; go_simp; try with_reducible rfl)
        try simp only [Act.put, aL1, aL2, aL3]
        refine tn 10 ?_
        try simp only [Act.put, aL1, aL2, aL3]
        refine tn 11 ?_
        try simp only [Act.put, aL1, aL2, aL3]
        refine tn 12 ?_
        try simp only [Act.put, aL1, aL2, aL3]
        refine tn 13 ?_ (hx := fun wz hSw => by have e4 := hSw.old HSR 0 rfl; go_simp; try with_reducible rfl)
        try simp only [Act.put, aL1, aL2, aL3]
        refine tn 14 ?_
        try simp only [Act.put, aL1, aL2, aL3]
        refine rd3 15 20 21 (fun K hK => ?_) (fun K hK => ?_) (fun K hK => ?_)
        go_simp
        refine (HB2.out _ hHeld.below).mono ?_
        rintro e w' ⟨rfl, hb⟩
        refine hK.out _ _ (hHeld.step hb) (fun hHeld => ?_)
        clear hK K
        try simp only [Act.put, aL1, aL2, aL3]
        refine tn 16 ?_
        try simp only [Act.put, aL1, aL2, aL3]
        refine tn 17 ?_
        try simp only [Act.put, aL1, aL2, aL3]
        refine tn 18 ?_
        try simp only [Act.put, aL1, aL2, aL3]
        refine tn 19 ?_
        try simp only [Act.put, aL1, aL2, aL3]
        refine rd2 20 21 (fun K hK => ?_) (fun K hK => ?_)
        go_simp
        obtain ⟨bU, hbe, hS1, hZU, hgU, hnU, hbA⟩ := hHeld.allocB (.cells #[.int .i64 0, .int .i64 0, .int .i64 0, .int .i64 0, .int .i64 0, .string ⟨#[]⟩, .int .i64 0, .int .i64 0] 63)
        try simp only [World.alloc, Array.size_push] at hbe
        rw [← hbe]
        refine hK.out _ _ hS1 (fun hHeld => ?_)
        clear hK K hS1 hbe hbA
        try simp only [Act.put, aL1, aL2, aL3]
        refine rd1 21 (fun K hK => ?_)
        go_simp
        obtain ⟨bV, hbe, hS1, hZV, hgV, hnV, hbA⟩ := hHeld.allocB (.cells #[.int .i64 0, .int .i64 0, .int .i64 0, .int .i64 0, .int .i64 0, .string ⟨#[]⟩, .int .i64 0, .int .i64 0] 63)
        have hxUV : bU ≠ bV := by rw [hbe]; exact Nat.ne_of_lt (blk_lt hZU)
        have hZU := (hbA.block bU (blk_lt hZU)).trans hZU
        try simp only [World.alloc, Array.size_push] at hbe
        rw [← hbe]
        refine hK.out _ _ hS1 (fun hHeld => ?_)
        clear hK K hS1 hbe hbA
        try simp only [Act.put, aL1, aL2, aL3]
        rotate_left
        go_simp
        obtain ⟨bV, hbe, hS1, hZV, hgV, hnV, hbA⟩ := hHeld.allocB (.cells #[.int .i64 0, .int .i64 0, .int .i64 0, .int .i64 0, .int .i64 0, .string ⟨#[]⟩, .int .i64 0, .int .i64 0] 63)
        try simp only [World.alloc, Array.size_push] at hbe
        rw [← hbe]
        refine hK.out _ _ hS1 (fun hHeld => ?_)
        clear hK K hS1 hbe hbA
        try simp only [Act.put, aL1, aL2, aL3]
        refine rd1 20 (fun K hK => ?_)
        go_simp
        obtain ⟨bU, hbe, hS1, hZU, hgU, hnU, hbA⟩ := hHeld.allocB (.cells #[.int .i64 0, .int .i64 0, .int .i64 0, .int .i64 0, .int .i64 0, .string ⟨#[]⟩, .int .i64 0, .int .i64 0] 63)
        have hxUV : bU ≠ bV := by rw [hbe]; exact (Nat.ne_of_lt (blk_lt hZV)).symm
        have hZV := (hbA.block bV (blk_lt hZV)).trans hZV
        try simp only [World.alloc, Array.size_push] at hbe
        rw [← hbe]
        refine hK.out _ _ hS1 (fun hHeld => ?_)
        clear hK K hS1 hbe hbA
        try simp only [Act.put, aL1, aL2, aL3]
        rotate_left
        go_simp
        obtain ⟨bU, hbe, hS1, hZU, hgU, hnU, hbA⟩ := hHeld.allocBD (.cells #[.int .i64 0, .int .i64 0, .int .i64 0, .int .i64 0, .int .i64 0, .string ⟨#[]⟩, .int .i64 0, .int .i64 0] 63)
        try simp only [World.alloc, Array.size_push] at hbe
        rw [← hbe]
        refine hK.out _ _ hS1 (fun hHeld => ?_)
        clear hK K hS1 hbe hbA
        try simp only [Act.put, aL1, aL2, aL3]
        refine rd2 15 21 (fun K hK => ?_) (fun K hK => ?_)
        go_simp
        refine (HB2.out _ hHeld.below).mono ?_
        rintro e w' ⟨rfl, hb⟩
        have hZU := (hb.block bU (blk_lt hZU)).trans hZU
        refine hK.out _ _ (hHeld.step hb) (fun hHeld => ?_)
        clear hK K
        try simp only [Act.put, aL1, aL2, aL3]
        refine tn 16 ?_
        try simp only [Act.put, aL1, aL2, aL3]
        refine tn 17 ?_
        try simp only [Act.put, aL1, aL2, aL3]
        refine tn 18 ?_
        try simp only [Act.put, aL1, aL2, aL3]
        refine tn 19 ?_
        try simp only [Act.put, aL1, aL2, aL3]
        refine rd1 21 (fun K hK => ?_)
        go_simp
        obtain ⟨bV, hbe, hS1, hZV, hgV, hnV, hbA⟩ := hHeld.allocB (.cells #[.int .i64 0, .int .i64 0, .int .i64 0, .int .i64 0, .int .i64 0, .string ⟨#[]⟩, .int .i64 0, .int .i64 0] 63)
        have hxUV : bU ≠ bV := by rw [hbe]; exact Nat.ne_of_lt (blk_lt hZU)
        have hZU := (hbA.block bU (blk_lt hZU)).trans hZU
        try simp only [World.alloc, Array.size_push] at hbe
        rw [← hbe]
        refine hK.out _ _ hS1 (fun hHeld => ?_)
        clear hK K hS1 hbe hbA
        try simp only [Act.put, aL1, aL2, aL3]
        rotate_left
        go_simp
        obtain ⟨bV, hbe, hS1, hZV, hgV, hnV, hbA⟩ := hHeld.allocBD (.cells #[.int .i64 0, .int .i64 0, .int .i64 0, .int .i64 0, .int .i64 0, .string ⟨#[]⟩, .int .i64 0, .int .i64 0] 63)
        have hxUV : bU ≠ bV := by rw [hbe]; exact Nat.ne_of_lt (blk_lt hZU)
        have hZU := (hbA.block bU (blk_lt hZU)).trans hZU
        try simp only [World.alloc, Array.size_push] at hbe
        rw [← hbe]
        refine hK.out _ _ hS1 (fun hHeld => ?_)
        clear hK K hS1 hbe hbA
        try simp only [Act.put, aL1, aL2, aL3]
        refine rd1 15 (fun K hK => ?_)
        go_simp
        refine (HB2.out _ hHeld.below).mono ?_
        rintro e w' ⟨rfl, hb⟩
        have hZU := (hb.block bU (blk_lt hZU)).trans hZU
        have hZV := (hb.block bV (blk_lt hZV)).trans hZV
        refine hK.out _ _ (hHeld.step hb) (fun hHeld => ?_)
        clear hK K
        try simp only [Act.put, aL1, aL2, aL3]
        refine tn 16 ?_
        try simp only [Act.put, aL1, aL2, aL3]
        refine tn 17 ?_
        try simp only [Act.put, aL1, aL2, aL3]
        refine tn 18 ?_
        try simp only [Act.put, aL1, aL2, aL3]
        refine tn 19 ?_
        try simp only [Act.put, aL1, aL2, aL3]
        rotate_left
        go_simp
        obtain ⟨bV, hbe, hS1, hZV, hgV, hnV, hbA⟩ := hHeld.allocBD (.cells #[.int .i64 0, .int .i64 0, .int .i64 0, .int .i64 0, .int .i64 0, .string ⟨#[]⟩, .int .i64 0, .int .i64 0] 63)
        try simp only [World.alloc, Array.size_push] at hbe
        rw [← hbe]
        refine hK.out _ _ hS1 (fun hHeld => ?_)
        clear hK K hS1 hbe hbA
        try simp only [Act.put, aL1, aL2, aL3]
        refine rd2 15 20 (fun K hK => ?_) (fun K hK => ?_)
        go_simp
        refine (HB2.out _ hHeld.below).mono ?_
        rintro e w' ⟨rfl, hb⟩
        have hZV := (hb.block bV (blk_lt hZV)).trans hZV
        refine hK.out _ _ (hHeld.step hb) (fun hHeld => ?_)
        clear hK K
        try simp only [Act.put, aL1, aL2, aL3]
        refine tn 16 ?_
        try simp only [Act.put, aL1, aL2, aL3]
        refine tn 17 ?_
        try simp only [Act.put, aL1, aL2, aL3]
        refine tn 18 ?_
        try simp only [Act.put, aL1, aL2, aL3]
        refine tn 19 ?_
        try simp only [Act.put, aL1, aL2, aL3]
        refine rd1 20 (fun K hK => ?_)
        go_simp
        obtain ⟨bU, hbe, hS1, hZU, hgU, hnU, hbA⟩ := hHeld.allocB (.cells #[.int .i64 0, .int .i64 0, .int .i64 0, .int .i64 0, .int .i64 0, .string ⟨#[]⟩, .int .i64 0, .int .i64 0] 63)
        have hxUV : bU ≠ bV := by rw [hbe]; exact (Nat.ne_of_lt (blk_lt hZV)).symm
        have hZV := (hbA.block bV (blk_lt hZV)).trans hZV
        try simp only [World.alloc, Array.size_push] at hbe
        rw [← hbe]
        refine hK.out _ _ hS1 (fun hHeld => ?_)
        clear hK K hS1 hbe hbA
        try simp only [Act.put, aL1, aL2, aL3]
        rotate_left
        go_simp
        obtain ⟨bU, hbe, hS1, hZU, hgU, hnU, hbA⟩ := hHeld.allocBD (.cells #[.int .i64 0, .int .i64 0, .int .i64 0, .int .i64 0, .int .i64 0, .string ⟨#[]⟩, .int .i64 0, .int .i64 0] 63)
        have hxUV : bU ≠ bV := by rw [hbe]; exact (Nat.ne_of_lt (blk_lt hZV)).symm
        have hZV := (hbA.block bV (blk_lt hZV)).trans hZV
        try simp only [World.alloc, Array.size_push] at hbe
        rw [← hbe]
        refine hK.out _ _ hS1 (fun hHeld => ?_)
        clear hK K hS1 hbe hbA
        try simp only [Act.put, aL1, aL2, aL3]
        refine rd1 15 (fun K hK => ?_)
        go_simp
        refine (HB2.out _ hHeld.below).mono ?_
        rintro e w' ⟨rfl, hb⟩
        have hZU := (hb.block bU (blk_lt hZU)).trans hZU
        have hZV := (hb.block bV (blk_lt hZV)).trans hZV
        refine hK.out _ _ (hHeld.step hb) (fun hHeld => ?_)
        clear hK K
        try simp only [Act.put, aL1, aL2, aL3]
        refine tn 16 ?_
        try simp only [Act.put, aL1, aL2, aL3]
        refine tn 17 ?_
        try simp only [Act.put, aL1, aL2, aL3]
        refine tn 18 ?_
        try simp only [Act.put, aL1, aL2, aL3]
        refine tn 19 ?_
        try simp only [Act.put, aL1, aL2, aL3]
        rotate_left
        all_goals
          refine rd1 22 (fun K hK => ?_)
          rw [if_pos (by rfl)]
          refine wp_store_row 63 _ _ rfl bU #[.int .i64 u.office, .int .i64 u.hour, .int .i64 u.inn, .int .i64 u.out, .int .i64 u.store, .string u.prev, .int .i64 u.e, .int .i64 u.s] rfl rfl 63 #[.int .i64 0, .int .i64 0, .int .i64 0, .int .i64 0, .int .i64 0, .string ⟨#[]⟩, .int .i64 0, .int .i64 0] hZU infoCm rfl (by simp [Value.oneCell']) ?_
          have hZV := (setRow_other _ bU bV #[.int .i64 u.office, .int .i64 u.hour, .int .i64 u.inn, .int .i64 u.out, .int .i64 u.store, .string u.prev, .int .i64 u.e, .int .i64 u.s] (hxUV.symm)).trans hZV
          have hZU := setRow_heap _ _ _ #[.int .i64 u.office, .int .i64 u.hour, .int .i64 u.inn, .int .i64 u.out, .int .i64 u.store, .string u.prev, .int .i64 u.e, .int .i64 u.s] _ _ hZU
          refine hK.out _ _ (hHeld.setOther hgU hnU _) (fun hHeld => ?_)
          clear hK K
          try simp only [Act.put]
          refine rd1 23 (fun K hK => ?_)
          rw [if_pos (by rfl)]
          refine wp_store_row 63 _ _ rfl bV #[.int .i64 v.office, .int .i64 v.hour, .int .i64 v.inn, .int .i64 v.out, .int .i64 v.store, .string v.prev, .int .i64 v.e, .int .i64 v.s] rfl rfl 63 #[.int .i64 0, .int .i64 0, .int .i64 0, .int .i64 0, .int .i64 0, .string ⟨#[]⟩, .int .i64 0, .int .i64 0] hZV infoCm rfl (by simp [Value.oneCell']) ?_
          have hZU := (setRow_other _ bV bU #[.int .i64 v.office, .int .i64 v.hour, .int .i64 v.inn, .int .i64 v.out, .int .i64 v.store, .string v.prev, .int .i64 v.e, .int .i64 v.s] (hxUV)).trans hZU
          have hZV := setRow_heap _ _ _ #[.int .i64 v.office, .int .i64 v.hour, .int .i64 v.inn, .int .i64 v.out, .int .i64 v.store, .string v.prev, .int .i64 v.e, .int .i64 v.s] _ _ hZV
          refine hK.out _ _ (hHeld.setOther hgV hnV _) (fun hHeld => ?_)
          clear hK K
          try simp only [Act.put]
          refine tn 24 ?_
          try simp only [Act.put, aL1, aL2, aL3]
          refine rdone (NoPanic.normal ?_)
          have HRL := Lib.hid ((hHeld.cons hZV hgV hnV).cons hZU hgU (fun h => (List.mem_cons.1 h).elim (fun e => hxUV e) hnU))
          go_wp2_with fail
          go_meet
          exact ⟨bU, bV, rfl, rfl, rfl, HRL.out⟩
      obtain ⟨bU, bV, rfl, rfl, rfl, hr4⟩ := hcut
      have HR4 := Lib.hid hr4
      clear hr4 HR2
      rcases HQ2.out with ⟨hf2, -, -, rfl⟩ | ⟨hf2, rfl⟩
      · have HF : Hid (bothR (first2 (disB (judgeV err room ps pubs)) L0 L1) (first2 (disB (judgeV err room ps pubs)) L1 L2) = none) := Lib.hid (bothR_none2 hf2)
        clear hf2
        go_wp2_with (refine wpList_store_row rfl 40 _ _ rfl w.heap.size #[.int .i64 0, .int .i64 0, .slice none 0 0, .int .i64 0, .int .i64 0, .int .i64 0, .int .i64 0, .int .i64 0, .int .i64 0] rfl rfl 40 #[.int .i64 0, .int .i64 0, .slice none 0 0, .int .i64 0, .int .i64 0, .int .i64 0, .int .i64 0, .int .i64 0, .int .i64 0] (HR4.out.row 4 rfl) infoBl rfl (by simp [Value.oneCell']) ?_)
        have HRZ := Lib.hid (HR4.out.set (i := 4) (cs' := #[.int .i64 0, .int .i64 0, .slice none 0 0, .int .i64 0, .int .i64 0, .int .i64 0, .int .i64 0, .int .i64 0, .int .i64 0]) rfl)
        exact bodyPost_ret (v := .tuple #[.agg #[.int .i64 0, .int .i64 0, .slice none 0 0, .int .i64 0, .int .i64 0, .int .i64 0, .int .i64 0, .int .i64 0, .int .i64 0], .bool false]) (Eq.trans (results_row_tmp rfl _ _ w.heap.size 40 #[.int .i64 0, .int .i64 0, .slice none 0 0, .int .i64 0, .int .i64 0, .int .i64 0, .int .i64 0, .int .i64 0, .int .i64 0] (0, 0) _ rfl (HRZ.out.row 4 rfl) undBl rfl infoBl) rfl) rfl (retF_none HF.out HRZ.out.below)
      · have HF : Hid (bothR (first2 (disB (judgeV err room ps pubs)) L0 L1) (first2 (disB (judgeV err room ps pubs)) L1 L2) = some ⟨o, 4, [x, y, u, v], zeroP⟩) := Lib.hid (by rw [HO.out]; exact bothR_some HF1.out hf2)
        obtain ⟨hm0, hm1, -⟩ := first2_some HF1.out
        obtain ⟨hm2, hm3, -⟩ := first2_some hf2
        have hg0 := good_of HS.out.l0 hm0
        have hg1 := good_of HS.out.l1 hm1
        have hg2 := good_of HS.out.l1 hm2
        have hg3 := good_of HS.out.l2 hm3
        clear hf2 hm0 hm1 hm2 hm3
        rename World => w2
        have HR5 := Lib.hid (HR4.out.alloc (.cells #[.int .i64 x.office, .int .i64 x.hour, .int .i64 x.inn, .int .i64 x.out, .int .i64 x.store, .string x.prev, .int .i64 x.e, .int .i64 x.s, .int .i64 y.office, .int .i64 y.hour, .int .i64 y.inn, .int .i64 y.out, .int .i64 y.store, .string y.prev, .int .i64 y.e, .int .i64 y.s, .int .i64 u.office, .int .i64 u.hour, .int .i64 u.inn, .int .i64 u.out, .int .i64 u.store, .string u.prev, .int .i64 u.e, .int .i64 u.s, .int .i64 v.office, .int .i64 v.hour, .int .i64 v.inn, .int .i64 v.out, .int .i64 v.store, .string v.prev, .int .i64 v.e, .int .i64 v.s] 63))
        go_wp2_with (first | (refine wpList_load_rowW (by first | (go_simp; done) | rfl) 63 _ rfl _ rfl 63 _ _ _ (HR4.out.row 0 rfl) undCm rfl infoCm ?_) | (refine wpList_load_rowW (by first | (go_simp; done) | rfl) 63 _ rfl _ rfl 63 _ _ _ (HR4.out.row 1 rfl) undCm rfl infoCm ?_) | (refine wpList_load_rowW (by first | (go_simp; done) | rfl) 63 _ rfl _ rfl 63 _ _ _ (HR4.out.row 2 rfl) undCm rfl infoCm ?_) | (refine wpList_load_rowW (by first | (go_simp; done) | rfl) 63 _ rfl _ rfl 63 _ _ _ (HR4.out.row 3 rfl) undCm rfl infoCm ?_))
        have HL1 : Hid (LArg RC 8 (.slice (some ⟨w2.heap.size, 0, none⟩) 4 4) [x, y, u, v] (w2.alloc (.cells #[.int .i64 x.office, .int .i64 x.hour, .int .i64 x.inn, .int .i64 x.out, .int .i64 x.store, .string x.prev, .int .i64 x.e, .int .i64 x.s, .int .i64 y.office, .int .i64 y.hour, .int .i64 y.inn, .int .i64 y.out, .int .i64 y.store, .string y.prev, .int .i64 y.e, .int .i64 y.s, .int .i64 u.office, .int .i64 u.hour, .int .i64 u.inn, .int .i64 u.out, .int .i64 u.store, .string u.prev, .int .i64 u.e, .int .i64 u.s, .int .i64 v.office, .int .i64 v.hour, .int .i64 v.inn, .int .i64 v.out, .int .i64 v.store, .string v.prev, .int .i64 v.e, .int .i64 v.s] 63))) := Lib.hid (larg_rowC (l := [x, y, u, v]) (heap_alloc_new _ _) (by
          intro x hx
          simp only [List.mem_cons, List.not_mem_nil, or_false] at hx
          rcases hx with rfl | rfl | rfl | rfl
          all_goals assumption) (by simp))
        have hgeb : w.heap.size ≤ w2.heap.size := HR4.out.below.size
        have hne : w2.heap.size ≠ w.heap.size := (Nat.ne_of_lt (blk_lt (HR4.out.row 4 rfl))).symm
        generalize (w2.alloc (.cells #[.int .i64 x.office, .int .i64 x.hour, .int .i64 x.inn, .int .i64 x.out, .int .i64 x.store, .string x.prev, .int .i64 x.e, .int .i64 x.s, .int .i64 y.office, .int .i64 y.hour, .int .i64 y.inn, .int .i64 y.out, .int .i64 y.store, .string y.prev, .int .i64 y.e, .int .i64 y.s, .int .i64 u.office, .int .i64 u.hour, .int .i64 u.inn, .int .i64 u.out, .int .i64 u.store, .string u.prev, .int .i64 u.e, .int .i64 u.s, .int .i64 v.office, .int .i64 v.hour, .int .i64 v.inn, .int .i64 v.out, .int .i64 v.store, .string v.prev, .int .i64 v.e, .int .i64 v.s] 63)) = w6 at *
        generalize w2.heap.size = bs at *
        refine (proof_any o 4 (some ⟨bs, 0, none⟩) 4 4 _).mono ?_
        rintro e w7 ⟨rfl, hb7⟩
        have HR7 := Lib.hid (HR5.out.step hb7)
        have HL7 := Lib.hid (HL1.out.below stays_RC hb7)
        clear hb7 HL1 HR5 HR4
        go_wp2_with (refine wpList_store_row rfl 40 _ _ rfl w.heap.size #[.int .i64 o, .int .i64 4, .slice (some ⟨bs, 0, none⟩) 4 4, .int .i64 0, .int .i64 0, .int .i64 0, .int .i64 0, .int .i64 0, .int .i64 0] rfl rfl 40 #[.int .i64 0, .int .i64 0, .slice none 0 0, .int .i64 0, .int .i64 0, .int .i64 0, .int .i64 0, .int .i64 0, .int .i64 0] (HR7.out.row 4 rfl) infoBl rfl (by simp [Value.oneCell']) ?_)
        have HRZ := Lib.hid (HR7.out.set (i := 4) (cs' := #[.int .i64 o, .int .i64 4, .slice (some ⟨bs, 0, none⟩) 4 4, .int .i64 0, .int .i64 0, .int .i64 0, .int .i64 0, .int .i64 0, .int .i64 0]) rfl)
        exact bodyPost_ret (v := .tuple #[.agg #[.int .i64 o, .int .i64 4, .slice (some ⟨bs, 0, none⟩) 4 4, .int .i64 0, .int .i64 0, .int .i64 0, .int .i64 0, .int .i64 0, .int .i64 0], .bool true]) (Eq.trans (results_row_tmp rfl _ _ w.heap.size 40 #[.int .i64 o, .int .i64 4, .slice (some ⟨bs, 0, none⟩) 4 4, .int .i64 0, .int .i64 0, .int .i64 0, .int .i64 0, .int .i64 0, .int .i64 0] (0, 0) _ rfl (HRZ.out.row 4 rfl) undBl rfl infoBl) rfl) rfl (retF_some (p := zeroP) HF.out (larg_setRow HL7.out hne _) hgeb HRZ.out.below)
  · have q1 : (o != 1) = true := by rw [bne_iff_ne]; exact ho
    have q2 : (o == 1) = false := by rw [beq_eq_false_iff_ne]; exact ho
    have q3 : decide (o = 1) = false := decide_eq_false ho
    rw [if_neg ho]
    clear ho
    go_enter Tryz.func28, Tryz.ntmps28
    go_upto_region 1 with fail
    generalize w.alloc (.cells #[.int .i64 0, .int .i64 0, .slice none 0 0, .int .i64 0, .int .i64 0, .int .i64 0, .int .i64 0, .int .i64 0, .int .i64 0] 40) = w0 at *
    go_wp2_with (refine wpList_store_row rfl 40 _ _ rfl w.heap.size #[.int .i64 0, .int .i64 0, .slice none 0 0, .int .i64 0, .int .i64 0, .int .i64 0, .int .i64 0, .int .i64 0, .int .i64 0] rfl rfl 40 #[.int .i64 0, .int .i64 0, .slice none 0 0, .int .i64 0, .int .i64 0, .int .i64 0, .int .i64 0, .int .i64 0, .int .i64 0] (HR0.out.row 0 rfl) infoBl rfl (by simp [Value.oneCell']) ?_)
    have HRZ := Lib.hid (HR0.out.set (i := 0) (cs' := #[.int .i64 0, .int .i64 0, .slice none 0 0, .int .i64 0, .int .i64 0, .int .i64 0, .int .i64 0, .int .i64 0, .int .i64 0]) rfl)
    exact bodyPost_ret (v := .tuple #[.agg #[.int .i64 0, .int .i64 0, .slice none 0 0, .int .i64 0, .int .i64 0, .int .i64 0, .int .i64 0, .int .i64 0, .int .i64 0], .bool false]) (Eq.trans (results_row_tmp rfl _ _ w.heap.size 40 #[.int .i64 0, .int .i64 0, .slice none 0 0, .int .i64 0, .int .i64 0, .int .i64 0, .int .i64 0, .int .i64 0, .int .i64 0] (0, 0) _ rfl (HRZ.out.row 0 rfl) undBl rfl infoBl) rfl) rfl (retF_none rfl HRZ.out.below)
end Go.Proofs.YtjbjpkhibcnenaaGreatDoor

