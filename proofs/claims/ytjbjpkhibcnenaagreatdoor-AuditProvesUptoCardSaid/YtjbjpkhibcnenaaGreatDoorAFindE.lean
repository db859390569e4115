/- audit.Find: balance. -/
import Derived.Test.YtjbjpkhibcnenaaGreatDoorAFindD
import Derived.Test.YtjbjpkhibcnenaaGreatDoorAFindBN
import Derived.Test.YtjbjpkhibcnenaaGreatDoorACheckB
namespace Go.Proofs.YtjbjpkhibcnenaaGreatDoor
open Go.RowKit
/-- an answer of later or boundary, as three values -/
def PairIs (R : Option (CV × CV)) (x y : CV) (r : Bool) : Prop := (R = none ∧ x = zeroC ∧ y = zeroC ∧ r = false) ∨ (R = some (x, y) ∧ r = true)
theorem pairIs (R : Option (CV × CV)) : ∃ (x y : CV) (r : Bool), PairIs R x y r := by
  cases R with
  | none => exact ⟨zeroC, zeroC, false, Or.inl ⟨rfl, rfl, rfl, rfl⟩⟩
  | some p => exact ⟨p.1, p.2, true, Or.inr ⟨rfl, rfl⟩⟩
theorem PairIs.ret {R : Option (CV × CV)} {x y : CV} {r : Bool} (h : PairIs R x y r) {w w' : World} {e : Ending} (hr : RetP R w e w') : e = .returned (.tuple #[.agg #[.int .i64 x.office, .int .i64 x.hour, .int .i64 x.inn, .int .i64 x.out, .int .i64 x.store, .string x.prev, .int .i64 x.e, .int .i64 x.s], .agg #[.int .i64 y.office, .int .i64 y.hour, .int .i64 y.inn, .int .i64 y.out, .int .i64 y.store, .string y.prev, .int .i64 y.e, .int .i64 y.s], .bool r]) ∧ Below w.heap.size w w' := by
  obtain ⟨h1, h2⟩ := hr
  refine ⟨?_, h2⟩
  rcases h with ⟨rfl, rfl, rfl, rfl⟩ | ⟨rfl, rfl⟩
  · exact h1
  · exact h1
set_option maxRecDepth 100000 in
set_option maxHeartbeats 8000000 in
theorem balance_any (jb mb : Nat) (ar ap : Option Addr) (cr cp : Nat) (err : Int) (room ps : List Int) (pubs : List PublicV) (sb j : Nat) (ao : Option Addr) (ko : Nat) (L : List CV) (last : Int) (w : World) (hJ : JudgeAt jb mb ar ap cr cp err room ps pubs w) (hS : SOf sb jb j ao ko L last w) (hI : ∀ p ∈ pubs, PbI p) (hpl : pubs.length ≤ 1000) :
    Calls Tryz.prog 25 #[.pointer (some ⟨sb, 0, none⟩), .int .i64 (j : Int)] w (RetF (two (j : Int) 1 (first2 (laterB (hoursF pubs) (netP j) (unbalB err)) L L)) w) := by
  have HJd := Lib.hid hJ
  have HSO := Lib.hid hS
  have HR := Lib.hid ((RowsS.nil w).alloc (.cells #[.int .i64 0, .int .i64 0, .slice none 0 0, .int .i64 0, .int .i64 0, .int .i64 0, .int .i64 0, .int .i64 0, .int .i64 0] 40))
  clear hJ hS
  obtain ⟨x, y, r, hxy⟩ := pairIs (first2 (laterB (hoursF pubs) (netP j) (unbalB err)) L L)
  have HLa : Hid (∀ (w0 : World) (ob : Nat), Below w.heap.size w w0 → w0.cell? ⟨ob, 0, none⟩ = some (.int .i64 (j : Int)) → ob < w0.heap.size → Calls Tryz.prog 52 #[.pointer (some ⟨sb, 0, none⟩), .int .i64 (j : Int), .func (.func 80) #[] #[.pointer (some ⟨ob, 0, none⟩)], .func (.func 53) #[.pointer (some ⟨jb, 0, none⟩)] #[]] w0 fun e w' => e = .returned (.tuple #[.agg #[.int .i64 x.office, .int .i64 x.hour, .int .i64 x.inn, .int .i64 x.out, .int .i64 x.store, .string x.prev, .int .i64 x.e, .int .i64 x.s], .agg #[.int .i64 y.office, .int .i64 y.hour, .int .i64 y.inn, .int .i64 y.out, .int .i64 y.store, .string y.prev, .int .i64 y.e, .int .i64 y.s], .bool r]) ∧ Below w0.heap.size w0 w') := Lib.hid (fun w0 ob hb ho1 ho2 => (laterN_any jb mb ar ap cr cp err room ps pubs sb j ao ko L last ob w0 (HJd.out.below hb) (HSO.out.below hb) hI hpl ho1 ho2).mono (fun e w' h => hxy.ret h))
  have HXY := Lib.hid hxy
  clear hxy
  go_enter Tryz.func25, Tryz.ntmps25
  go_upto_region 1 with fail
  generalize w.alloc (.cells #[.int .i64 0, .int .i64 0, .slice none 0 0, .int .i64 0, .int .i64 0, .int .i64 0, .int .i64 0, .int .i64 0, .int .i64 0] 40) = w0 at *
  go_cut [6, 7, 8] (fun s6 s7 s8 wx => ∃ bX bY, s6 = .pointer (some ⟨bX, 0, none⟩) ∧ s7 = .pointer (some ⟨bY, 0, none⟩) ∧ s8 = .bool r ∧ RowsS w [(bX, .cells #[.int .i64 x.office, .int .i64 x.hour, .int .i64 x.inn, .int .i64 x.out, .int .i64 x.store, .string x.prev, .int .i64 x.e, .int .i64 x.s] 63), (bY, .cells #[.int .i64 y.office, .int .i64 y.hour, .int .i64 y.inn, .int .i64 y.out, .int .i64 y.store, .string y.prev, .int .i64 y.e, .int .i64 y.s] 63), (w.heap.size, .cells #[.int .i64 0, .int .i64 0, .slice none 0 0, .int .i64 0, .int .i64 0, .int .i64 0, .int .i64 0, .int .i64 0, .int .i64 0] 40)] wx)
  case first =>
    refine wp_region_noPanic ?_
    refine wp_region_held_drew (S := fun cw => RowsS w [(w.heap.size, .cells #[.int .i64 0, .int .i64 0, .slice none 0 0, .int .i64 0, .int .i64 0, .int .i64 0, .int .i64 0, .int .i64 0, .int .i64 0] 40)] cw) (by kernel_rfl) (HR.out.drew) (fun hHeld => ?_)
    refine tn 0 ?_
    try simp only [Act.put, aL1, aL2, aL3]
    refine tn 1 ?_
    try simp only [Act.put, aL1, aL2, aL3]
    refine tn 2 ?_
    try simp only [Act.put, aL1, aL2, aL3]
    refine tn 4 ?_
    try simp only [Act.put, aL1, aL2, aL3]
    refine tn 5 ?_
    try simp only [Act.put, aL1, aL2, aL3]
    refine tn 6 ?_
    try simp only [Act.put, aL1, aL2, aL3]
    refine tn 7 ?_ (hx := fun wz hSw => by have e4 := (hSw.below.cell (p := ⟨sb, 0, none⟩) HSO.out.lt).trans HSO.out.c0; go_simp; try with_reducible rfl)
    try simp only [Act.put, aL1, aL2, aL3]
    refine tn 8 ?_
    try simp only [Act.put, aL1, aL2, aL3]
    refine rd3 3 14 15 (fun K hK => ?_) (fun K hK => ?_) (fun K hK => ?_)
    go_simp
    refine (net_any2 (j : Int) _).mono ?_
    rintro e w' ⟨ob, rfl, hZO, -, hb⟩
    refine hK.out _ _ (hHeld.step hb) (fun hHeld => ?_)
    clear hK K
    try simp only [Act.put, aL1, aL2, aL3]
    refine rd3 9 14 15 (fun K hK => ?_) (fun K hK => ?_) (fun K hK => ?_)
    go_simp
    refine (HLa.out _ ob hHeld.below (rowN hZO 0 (.int .i64 (j : Int)) rfl) (blk_lt hZO)).mono ?_
    rintro e w' ⟨rfl, hb⟩
    have hZO := (hb.block ob (blk_lt hZO)).trans hZO
    refine hK.out _ _ (hHeld.step hb) (fun hHeld => ?_)
    clear hK K
    try simp only [Act.put, aL1, aL2, aL3]
    refine tn 10 ?_
    try simp only [Act.put, aL1, aL2, aL3]
    refine tn 11 ?_
    try simp only [Act.put, aL1, aL2, aL3]
    refine tn 12 ?_
    try simp only [Act.put, aL1, aL2, aL3]
    refine tn 13 ?_
    try simp only [Act.put, aL1, aL2, aL3]
    refine rd2 14 15 (fun K hK => ?_) (fun K hK => ?_)
    go_simp
    obtain ⟨bX, hbe, hS1, hZX, hgX, hnX, hbA⟩ := hHeld.allocB (.cells #[.int .i64 0, .int .i64 0, .int .i64 0, .int .i64 0, .int .i64 0, .string ⟨#[]⟩, .int .i64 0, .int .i64 0] 63)
    have hxOX : ob ≠ bX := by rw [hbe]; exact Nat.ne_of_lt (blk_lt hZO)
    have hZO := (hbA.block ob (blk_lt hZO)).trans hZO
    try simp only [World.alloc, Array.size_push] at hbe
    rw [← hbe]
    refine hK.out _ _ hS1 (fun hHeld => ?_)
    clear hK K hS1 hbe hbA
    try simp only [Act.put, aL1, aL2, aL3]
    refine rd1 15 (fun K hK => ?_)
    go_simp
    obtain ⟨bY, hbe, hS1, hZY, hgY, hnY, hbA⟩ := hHeld.allocB (.cells #[.int .i64 0, .int .i64 0, .int .i64 0, .int .i64 0, .int .i64 0, .string ⟨#[]⟩, .int .i64 0, .int .i64 0] 63)
    have hxOY : ob ≠ bY := by rw [hbe]; exact Nat.ne_of_lt (blk_lt hZO)
    have hZO := (hbA.block ob (blk_lt hZO)).trans hZO
    have hxXY : bX ≠ bY := by rw [hbe]; exact Nat.ne_of_lt (blk_lt hZX)
    have hZX := (hbA.block bX (blk_lt hZX)).trans hZX
    try simp only [World.alloc, Array.size_push] at hbe
    rw [← hbe]
    refine hK.out _ _ hS1 (fun hHeld => ?_)
    clear hK K hS1 hbe hbA
    try simp only [Act.put, aL1, aL2, aL3]
    rotate_left
    go_simp
    obtain ⟨bY, hbe, hS1, hZY, hgY, hnY, hbA⟩ := hHeld.allocB (.cells #[.int .i64 0, .int .i64 0, .int .i64 0, .int .i64 0, .int .i64 0, .string ⟨#[]⟩, .int .i64 0, .int .i64 0] 63)
    have hxOY : ob ≠ bY := by rw [hbe]; exact Nat.ne_of_lt (blk_lt hZO)
    have hZO := (hbA.block ob (blk_lt hZO)).trans hZO
    try simp only [World.alloc, Array.size_push] at hbe
    rw [← hbe]
    refine hK.out _ _ hS1 (fun hHeld => ?_)
    clear hK K hS1 hbe hbA
    try simp only [Act.put, aL1, aL2, aL3]
    refine rd1 14 (fun K hK => ?_)
    go_simp
    obtain ⟨bX, hbe, hS1, hZX, hgX, hnX, hbA⟩ := hHeld.allocB (.cells #[.int .i64 0, .int .i64 0, .int .i64 0, .int .i64 0, .int .i64 0, .string ⟨#[]⟩, .int .i64 0, .int .i64 0] 63)
    have hxXY : bX ≠ bY := by rw [hbe]; exact (Nat.ne_of_lt (blk_lt hZY)).symm
    have hZY := (hbA.block bY (blk_lt hZY)).trans hZY
    have hxOX : ob ≠ bX := by rw [hbe]; exact Nat.ne_of_lt (blk_lt hZO)
    have hZO := (hbA.block ob (blk_lt hZO)).trans hZO
    try simp only [World.alloc, Array.size_push] at hbe
    rw [← hbe]
    refine hK.out _ _ hS1 (fun hHeld => ?_)
    clear hK K hS1 hbe hbA
    try simp only [Act.put, aL1, aL2, aL3]
    rotate_left
    go_simp
    obtain ⟨bX, hbe, hS1, hZX, hgX, hnX, hbA⟩ := hHeld.allocB (.cells #[.int .i64 0, .int .i64 0, .int .i64 0, .int .i64 0, .int .i64 0, .string ⟨#[]⟩, .int .i64 0, .int .i64 0] 63)
    have hxOX : ob ≠ bX := by rw [hbe]; exact Nat.ne_of_lt (blk_lt hZO)
    have hZO := (hbA.block ob (blk_lt hZO)).trans hZO
    try simp only [World.alloc, Array.size_push] at hbe
    rw [← hbe]
    refine hK.out _ _ hS1 (fun hHeld => ?_)
    clear hK K hS1 hbe hbA
    try simp only [Act.put, aL1, aL2, aL3]
    refine rd2 9 15 (fun K hK => ?_) (fun K hK => ?_)
    go_simp
    refine (HLa.out _ ob hHeld.below (rowN hZO 0 (.int .i64 (j : Int)) rfl) (blk_lt hZO)).mono ?_
    rintro e w' ⟨rfl, hb⟩
    have hZO := (hb.block ob (blk_lt hZO)).trans hZO
    have hZX := (hb.block bX (blk_lt hZX)).trans hZX
    refine hK.out _ _ (hHeld.step hb) (fun hHeld => ?_)
    clear hK K
    try simp only [Act.put, aL1, aL2, aL3]
    refine tn 10 ?_
    try simp only [Act.put, aL1, aL2, aL3]
    refine tn 11 ?_
    try simp only [Act.put, aL1, aL2, aL3]
    refine tn 12 ?_
    try simp only [Act.put, aL1, aL2, aL3]
    refine tn 13 ?_
    try simp only [Act.put, aL1, aL2, aL3]
    refine rd1 15 (fun K hK => ?_)
    go_simp
    obtain ⟨bY, hbe, hS1, hZY, hgY, hnY, hbA⟩ := hHeld.allocB (.cells #[.int .i64 0, .int .i64 0, .int .i64 0, .int .i64 0, .int .i64 0, .string ⟨#[]⟩, .int .i64 0, .int .i64 0] 63)
    have hxOY : ob ≠ bY := by rw [hbe]; exact Nat.ne_of_lt (blk_lt hZO)
    have hZO := (hbA.block ob (blk_lt hZO)).trans hZO
    have hxXY : bX ≠ bY := by rw [hbe]; exact Nat.ne_of_lt (blk_lt hZX)
    have hZX := (hbA.block bX (blk_lt hZX)).trans hZX
    try simp only [World.alloc, Array.size_push] at hbe
    rw [← hbe]
    refine hK.out _ _ hS1 (fun hHeld => ?_)
    clear hK K hS1 hbe hbA
    try simp only [Act.put, aL1, aL2, aL3]
    rotate_left
    go_simp
    obtain ⟨bY, hbe, hS1, hZY, hgY, hnY, hbA⟩ := hHeld.allocB (.cells #[.int .i64 0, .int .i64 0, .int .i64 0, .int .i64 0, .int .i64 0, .string ⟨#[]⟩, .int .i64 0, .int .i64 0] 63)
    have hxOY : ob ≠ bY := by rw [hbe]; exact Nat.ne_of_lt (blk_lt hZO)
    have hZO := (hbA.block ob (blk_lt hZO)).trans hZO
    have hxXY : bX ≠ bY := by rw [hbe]; exact Nat.ne_of_lt (blk_lt hZX)
    have hZX := (hbA.block bX (blk_lt hZX)).trans hZX
    try simp only [World.alloc, Array.size_push] at hbe
    rw [← hbe]
    refine hK.out _ _ hS1 (fun hHeld => ?_)
    clear hK K hS1 hbe hbA
    try simp only [Act.put, aL1, aL2, aL3]
    refine rd1 9 (fun K hK => ?_)
    go_simp
    refine (HLa.out _ ob hHeld.below (rowN hZO 0 (.int .i64 (j : Int)) rfl) (blk_lt hZO)).mono ?_
    rintro e w' ⟨rfl, hb⟩
    have hZO := (hb.block ob (blk_lt hZO)).trans hZO
    have hZX := (hb.block bX (blk_lt hZX)).trans hZX
    have hZY := (hb.block bY (blk_lt hZY)).trans hZY
    refine hK.out _ _ (hHeld.step hb) (fun hHeld => ?_)
    clear hK K
    try simp only [Act.put, aL1, aL2, aL3]
    refine tn 10 ?_
    try simp only [Act.put, aL1, aL2, aL3]
    refine tn 11 ?_
    try simp only [Act.put, aL1, aL2, aL3]
    refine tn 12 ?_
    try simp only [Act.put, aL1, aL2, aL3]
    refine tn 13 ?_
    try simp only [Act.put, aL1, aL2, aL3]
    rotate_left
    go_simp
    obtain ⟨bY, hbe, hS1, hZY, hgY, hnY, hbA⟩ := hHeld.allocB (.cells #[.int .i64 0, .int .i64 0, .int .i64 0, .int .i64 0, .int .i64 0, .string ⟨#[]⟩, .int .i64 0, .int .i64 0] 63)
    have hxOY : ob ≠ bY := by rw [hbe]; exact Nat.ne_of_lt (blk_lt hZO)
    have hZO := (hbA.block ob (blk_lt hZO)).trans hZO
    try simp only [World.alloc, Array.size_push] at hbe
    rw [← hbe]
    refine hK.out _ _ hS1 (fun hHeld => ?_)
    clear hK K hS1 hbe hbA
    try simp only [Act.put, aL1, aL2, aL3]
    refine rd2 9 14 (fun K hK => ?_) (fun K hK => ?_)
    go_simp
    refine (HLa.out _ ob hHeld.below (rowN hZO 0 (.int .i64 (j : Int)) rfl) (blk_lt hZO)).mono ?_
    rintro e w' ⟨rfl, hb⟩
    have hZO := (hb.block ob (blk_lt hZO)).trans hZO
    have hZY := (hb.block bY (blk_lt hZY)).trans hZY
    refine hK.out _ _ (hHeld.step hb) (fun hHeld => ?_)
    clear hK K
    try simp only [Act.put, aL1, aL2, aL3]
    refine tn 10 ?_
    try simp only [Act.put, aL1, aL2, aL3]
    refine tn 11 ?_
    try simp only [Act.put, aL1, aL2, aL3]
    refine tn 12 ?_
    try simp only [Act.put, aL1, aL2, aL3]
    refine tn 13 ?_
    try simp only [Act.put, aL1, aL2, aL3]
    refine rd1 14 (fun K hK => ?_)
    go_simp
    obtain ⟨bX, hbe, hS1, hZX, hgX, hnX, hbA⟩ := hHeld.allocB (.cells #[.int .i64 0, .int .i64 0, .int .i64 0, .int .i64 0, .int .i64 0, .string ⟨#[]⟩, .int .i64 0, .int .i64 0] 63)
    have hxXY : bX ≠ bY := by rw [hbe]; exact (Nat.ne_of_lt (blk_lt hZY)).symm
    have hZY := (hbA.block bY (blk_lt hZY)).trans hZY
    have hxOX : ob ≠ bX := by rw [hbe]; exact Nat.ne_of_lt (blk_lt hZO)
    have hZO := (hbA.block ob (blk_lt hZO)).trans hZO
    try simp only [World.alloc, Array.size_push] at hbe
    rw [← hbe]
    refine hK.out _ _ hS1 (fun hHeld => ?_)
    clear hK K hS1 hbe hbA
    try simp only [Act.put, aL1, aL2, aL3]
    rotate_left
    go_simp
    obtain ⟨bX, hbe, hS1, hZX, hgX, hnX, hbA⟩ := hHeld.allocB (.cells #[.int .i64 0, .int .i64 0, .int .i64 0, .int .i64 0, .int .i64 0, .string ⟨#[]⟩, .int .i64 0, .int .i64 0] 63)
    have hxXY : bX ≠ bY := by rw [hbe]; exact (Nat.ne_of_lt (blk_lt hZY)).symm
    have hZY := (hbA.block bY (blk_lt hZY)).trans hZY
    have hxOX : ob ≠ bX := by rw [hbe]; exact Nat.ne_of_lt (blk_lt hZO)
    have hZO := (hbA.block ob (blk_lt hZO)).trans hZO
    try simp only [World.alloc, Array.size_push] at hbe
    rw [← hbe]
    refine hK.out _ _ hS1 (fun hHeld => ?_)
    clear hK K hS1 hbe hbA
    try simp only [Act.put, aL1, aL2, aL3]
    refine rd1 9 (fun K hK => ?_)
    go_simp
    refine (HLa.out _ ob hHeld.below (rowN hZO 0 (.int .i64 (j : Int)) rfl) (blk_lt hZO)).mono ?_
    rintro e w' ⟨rfl, hb⟩
    have hZO := (hb.block ob (blk_lt hZO)).trans hZO
    have hZX := (hb.block bX (blk_lt hZX)).trans hZX
    have hZY := (hb.block bY (blk_lt hZY)).trans hZY
    refine hK.out _ _ (hHeld.step hb) (fun hHeld => ?_)
    clear hK K
    try simp only [Act.put, aL1, aL2, aL3]
    refine tn 10 ?_
    try simp only [Act.put, aL1, aL2, aL3]
    refine tn 11 ?_
    try simp only [Act.put, aL1, aL2, aL3]
    refine tn 12 ?_
    try simp only [Act.put, aL1, aL2, aL3]
    refine tn 13 ?_
    try simp only [Act.put, aL1, aL2, aL3]
    rotate_left
    go_simp
    obtain ⟨bX, hbe, hS1, hZX, hgX, hnX, hbA⟩ := hHeld.allocBD (.cells #[.int .i64 0, .int .i64 0, .int .i64 0, .int .i64 0, .int .i64 0, .string ⟨#[]⟩, .int .i64 0, .int .i64 0] 63)
    try simp only [World.alloc, Array.size_push] at hbe
    rw [← hbe]
    refine hK.out _ _ hS1 (fun hHeld => ?_)
    clear hK K hS1 hbe hbA
    try simp only [Act.put, aL1, aL2, aL3]
    refine rd2 3 15 (fun K hK => ?_) (fun K hK => ?_)
    go_simp
    refine (net_any2 (j : Int) _).mono ?_
    rintro e w' ⟨ob, rfl, hZO, -, hb⟩
    have hZX := (hb.block bX (blk_lt hZX)).trans hZX
    refine hK.out _ _ (hHeld.step hb) (fun hHeld => ?_)
    clear hK K
    try simp only [Act.put, aL1, aL2, aL3]
    refine rd2 9 15 (fun K hK => ?_) (fun K hK => ?_)
    go_simp
    refine (HLa.out _ ob hHeld.below (rowN hZO 0 (.int .i64 (j : Int)) rfl) (blk_lt hZO)).mono ?_
    rintro e w' ⟨rfl, hb⟩
    have hZO := (hb.block ob (blk_lt hZO)).trans hZO
    have hZX := (hb.block bX (blk_lt hZX)).trans hZX
    refine hK.out _ _ (hHeld.step hb) (fun hHeld => ?_)
    clear hK K
    try simp only [Act.put, aL1, aL2, aL3]
    refine tn 10 ?_
    try simp only [Act.put, aL1, aL2, aL3]
    refine tn 11 ?_
    try simp only [Act.put, aL1, aL2, aL3]
    refine tn 12 ?_
    try simp only [Act.put, aL1, aL2, aL3]
    refine tn 13 ?_
    try simp only [Act.put, aL1, aL2, aL3]
    refine rd1 15 (fun K hK => ?_)
    go_simp
    obtain ⟨bY, hbe, hS1, hZY, hgY, hnY, hbA⟩ := hHeld.allocB (.cells #[.int .i64 0, .int .i64 0, .int .i64 0, .int .i64 0, .int .i64 0, .string ⟨#[]⟩, .int .i64 0, .int .i64 0] 63)
    have hxOY : ob ≠ bY := by rw [hbe]; exact Nat.ne_of_lt (blk_lt hZO)
    have hZO := (hbA.block ob (blk_lt hZO)).trans hZO
    have hxXY : bX ≠ bY := by rw [hbe]; exact Nat.ne_of_lt (blk_lt hZX)
    have hZX := (hbA.block bX (blk_lt hZX)).trans hZX
    try simp only [World.alloc, Array.size_push] at hbe
    rw [← hbe]
    refine hK.out _ _ hS1 (fun hHeld => ?_)
    clear hK K hS1 hbe hbA
    try simp only [Act.put, aL1, aL2, aL3]
    rotate_left
    go_simp
    obtain ⟨bY, hbe, hS1, hZY, hgY, hnY, hbA⟩ := hHeld.allocB (.cells #[.int .i64 0, .int .i64 0, .int .i64 0, .int .i64 0, .int .i64 0, .string ⟨#[]⟩, .int .i64 0, .int .i64 0] 63)
    have hxOY : ob ≠ bY := by rw [hbe]; exact Nat.ne_of_lt (blk_lt hZO)
    have hZO := (hbA.block ob (blk_lt hZO)).trans hZO
    have hxXY : bX ≠ bY := by rw [hbe]; exact Nat.ne_of_lt (blk_lt hZX)
    have hZX := (hbA.block bX (blk_lt hZX)).trans hZX
    try simp only [World.alloc, Array.size_push] at hbe
    rw [← hbe]
    refine hK.out _ _ hS1 (fun hHeld => ?_)
    clear hK K hS1 hbe hbA
    try simp only [Act.put, aL1, aL2, aL3]
    refine rd1 9 (fun K hK => ?_)
    go_simp
    refine (HLa.out _ ob hHeld.below (rowN hZO 0 (.int .i64 (j : Int)) rfl) (blk_lt hZO)).mono ?_
    rintro e w' ⟨rfl, hb⟩
    have hZO := (hb.block ob (blk_lt hZO)).trans hZO
    have hZX := (hb.block bX (blk_lt hZX)).trans hZX
    have hZY := (hb.block bY (blk_lt hZY)).trans hZY
    refine hK.out _ _ (hHeld.step hb) (fun hHeld => ?_)
    clear hK K
    try simp only [Act.put, aL1, aL2, aL3]
    refine tn 10 ?_
    try simp only [Act.put, aL1, aL2, aL3]
    refine tn 11 ?_
    try simp only [Act.put, aL1, aL2, aL3]
    refine tn 12 ?_
    try simp only [Act.put, aL1, aL2, aL3]
    refine tn 13 ?_
    try simp only [Act.put, aL1, aL2, aL3]
    rotate_left
    go_simp
    obtain ⟨bY, hbe, hS1, hZY, hgY, hnY, hbA⟩ := hHeld.allocBD (.cells #[.int .i64 0, .int .i64 0, .int .i64 0, .int .i64 0, .int .i64 0, .string ⟨#[]⟩, .int .i64 0, .int .i64 0] 63)
    have hxXY : bX ≠ bY := by rw [hbe]; exact Nat.ne_of_lt (blk_lt hZX)
    have hZX := (hbA.block bX (blk_lt hZX)).trans hZX
    try simp only [World.alloc, Array.size_push] at hbe
    rw [← hbe]
    refine hK.out _ _ hS1 (fun hHeld => ?_)
    clear hK K hS1 hbe hbA
    try simp only [Act.put, aL1, aL2, aL3]
    refine rd1 3 (fun K hK => ?_)
    go_simp
    refine (net_any2 (j : Int) _).mono ?_
    rintro e w' ⟨ob, rfl, hZO, -, hb⟩
    have hZX := (hb.block bX (blk_lt hZX)).trans hZX
    have hZY := (hb.block bY (blk_lt hZY)).trans hZY
    refine hK.out _ _ (hHeld.step hb) (fun hHeld => ?_)
    clear hK K
    try simp only [Act.put, aL1, aL2, aL3]
    refine rd1 9 (fun K hK => ?_)
    go_simp
    refine (HLa.out _ ob hHeld.below (rowN hZO 0 (.int .i64 (j : Int)) rfl) (blk_lt hZO)).mono ?_
    rintro e w' ⟨rfl, hb⟩
    have hZO := (hb.block ob (blk_lt hZO)).trans hZO
    have hZX := (hb.block bX (blk_lt hZX)).trans hZX
    have hZY := (hb.block bY (blk_lt hZY)).trans hZY
    refine hK.out _ _ (hHeld.step hb) (fun hHeld => ?_)
    clear hK K
    try simp only [Act.put, aL1, aL2, aL3]
    refine tn 10 ?_
    try simp only [Act.put, aL1, aL2, aL3]
    refine tn 11 ?_
    try simp only [Act.put, aL1, aL2, aL3]
    refine tn 12 ?_
    try simp only [Act.put, aL1, aL2, aL3]
    refine tn 13 ?_
    try simp only [Act.put, aL1, aL2, aL3]
    rotate_left
    go_simp
    obtain ⟨bY, hbe, hS1, hZY, hgY, hnY, hbA⟩ := hHeld.allocBD (.cells #[.int .i64 0, .int .i64 0, .int .i64 0, .int .i64 0, .int .i64 0, .string ⟨#[]⟩, .int .i64 0, .int .i64 0] 63)
    try simp only [World.alloc, Array.size_push] at hbe
    rw [← hbe]
    refine hK.out _ _ hS1 (fun hHeld => ?_)
    clear hK K hS1 hbe hbA
    try simp only [Act.put, aL1, aL2, aL3]
    refine rd2 3 14 (fun K hK => ?_) (fun K hK => ?_)
    go_simp
    refine (net_any2 (j : Int) _).mono ?_
    rintro e w' ⟨ob, rfl, hZO, -, hb⟩
    have hZY := (hb.block bY (blk_lt hZY)).trans hZY
    refine hK.out _ _ (hHeld.step hb) (fun hHeld => ?_)
    clear hK K
    try simp only [Act.put, aL1, aL2, aL3]
    refine rd2 9 14 (fun K hK => ?_) (fun K hK => ?_)
    go_simp
    refine (HLa.out _ ob hHeld.below (rowN hZO 0 (.int .i64 (j : Int)) rfl) (blk_lt hZO)).mono ?_
    rintro e w' ⟨rfl, hb⟩
    have hZO := (hb.block ob (blk_lt hZO)).trans hZO
    have hZY := (hb.block bY (blk_lt hZY)).trans hZY
    refine hK.out _ _ (hHeld.step hb) (fun hHeld => ?_)
    clear hK K
    try simp only [Act.put, aL1, aL2, aL3]
    refine tn 10 ?_
    try simp only [Act.put, aL1, aL2, aL3]
    refine tn 11 ?_
    try simp only [Act.put, aL1, aL2, aL3]
    refine tn 12 ?_
    try simp only [Act.put, aL1, aL2, aL3]
    refine tn 13 ?_
    try simp only [Act.put, aL1, aL2, aL3]
    refine rd1 14 (fun K hK => ?_)
    go_simp
    obtain ⟨bX, hbe, hS1, hZX, hgX, hnX, hbA⟩ := hHeld.allocB (.cells #[.int .i64 0, .int .i64 0, .int .i64 0, .int .i64 0, .int .i64 0, .string ⟨#[]⟩, .int .i64 0, .int .i64 0] 63)
    have hxXY : bX ≠ bY := by rw [hbe]; exact (Nat.ne_of_lt (blk_lt hZY)).symm
    have hZY := (hbA.block bY (blk_lt hZY)).trans hZY
    have hxOX : ob ≠ bX := by rw [hbe]; exact Nat.ne_of_lt (blk_lt hZO)
    have hZO := (hbA.block ob (blk_lt hZO)).trans hZO
    try simp only [World.alloc, Array.size_push] at hbe
    rw [← hbe]
    refine hK.out _ _ hS1 (fun hHeld => ?_)
    clear hK K hS1 hbe hbA
    try simp only [Act.put, aL1, aL2, aL3]
    rotate_left
    go_simp
    obtain ⟨bX, hbe, hS1, hZX, hgX, hnX, hbA⟩ := hHeld.allocB (.cells #[.int .i64 0, .int .i64 0, .int .i64 0, .int .i64 0, .int .i64 0, .string ⟨#[]⟩, .int .i64 0, .int .i64 0] 63)
    have hxXY : bX ≠ bY := by rw [hbe]; exact (Nat.ne_of_lt (blk_lt hZY)).symm
    have hZY := (hbA.block bY (blk_lt hZY)).trans hZY
    have hxOX : ob ≠ bX := by rw [hbe]; exact Nat.ne_of_lt (blk_lt hZO)
    have hZO := (hbA.block ob (blk_lt hZO)).trans hZO
    try simp only [World.alloc, Array.size_push] at hbe
    rw [← hbe]
    refine hK.out _ _ hS1 (fun hHeld => ?_)
    clear hK K hS1 hbe hbA
    try simp only [Act.put, aL1, aL2, aL3]
    refine rd1 9 (fun K hK => ?_)
    go_simp
    refine (HLa.out _ ob hHeld.below (rowN hZO 0 (.int .i64 (j : Int)) rfl) (blk_lt hZO)).mono ?_
    rintro e w' ⟨rfl, hb⟩
    have hZO := (hb.block ob (blk_lt hZO)).trans hZO
    have hZX := (hb.block bX (blk_lt hZX)).trans hZX
    have hZY := (hb.block bY (blk_lt hZY)).trans hZY
    refine hK.out _ _ (hHeld.step hb) (fun hHeld => ?_)
    clear hK K
    try simp only [Act.put, aL1, aL2, aL3]
    refine tn 10 ?_
    try simp only [Act.put, aL1, aL2, aL3]
    refine tn 11 ?_
    try simp only [Act.put, aL1, aL2, aL3]
    refine tn 12 ?_
    try simp only [Act.put, aL1, aL2, aL3]
    refine tn 13 ?_
    try simp only [Act.put, aL1, aL2, aL3]
    rotate_left
    go_simp
    obtain ⟨bX, hbe, hS1, hZX, hgX, hnX, hbA⟩ := hHeld.allocBD (.cells #[.int .i64 0, .int .i64 0, .int .i64 0, .int .i64 0, .int .i64 0, .string ⟨#[]⟩, .int .i64 0, .int .i64 0] 63)
    have hxXY : bX ≠ bY := by rw [hbe]; exact (Nat.ne_of_lt (blk_lt hZY)).symm
    have hZY := (hbA.block bY (blk_lt hZY)).trans hZY
    try simp only [World.alloc, Array.size_push] at hbe
    rw [← hbe]
    refine hK.out _ _ hS1 (fun hHeld => ?_)
    clear hK K hS1 hbe hbA
    try simp only [Act.put, aL1, aL2, aL3]
    refine rd1 3 (fun K hK => ?_)
    go_simp
    refine (net_any2 (j : Int) _).mono ?_
    rintro e w' ⟨ob, rfl, hZO, -, hb⟩
    have hZX := (hb.block bX (blk_lt hZX)).trans hZX
    have hZY := (hb.block bY (blk_lt hZY)).trans hZY
    refine hK.out _ _ (hHeld.step hb) (fun hHeld => ?_)
    clear hK K
    try simp only [Act.put, aL1, aL2, aL3]
    refine rd1 9 (fun K hK => ?_)
    go_simp
    refine (HLa.out _ ob hHeld.below (rowN hZO 0 (.int .i64 (j : Int)) rfl) (blk_lt hZO)).mono ?_
    rintro e w' ⟨rfl, hb⟩
    have hZO := (hb.block ob (blk_lt hZO)).trans hZO
    have hZX := (hb.block bX (blk_lt hZX)).trans hZX
    have hZY := (hb.block bY (blk_lt hZY)).trans hZY
    refine hK.out _ _ (hHeld.step hb) (fun hHeld => ?_)
    clear hK K
    try simp only [Act.put, aL1, aL2, aL3]
    refine tn 10 ?_
    try simp only [Act.put, aL1, aL2, aL3]
    refine tn 11 ?_
    try simp only [Act.put, aL1, aL2, aL3]
    refine tn 12 ?_
    try simp only [Act.put, aL1, aL2, aL3]
    refine tn 13 ?_
    try simp only [Act.put, aL1, aL2, aL3]
    rotate_left
    all_goals
      refine rd1 16 (fun K hK => ?_)
      rw [if_pos (by rfl)]
      refine wp_store_row 63 _ _ rfl bX #[.int .i64 x.office, .int .i64 x.hour, .int .i64 x.inn, .int .i64 x.out, .int .i64 x.store, .string x.prev, .int .i64 x.e, .int .i64 x.s] rfl rfl 63 #[.int .i64 0, .int .i64 0, .int .i64 0, .int .i64 0, .int .i64 0, .string ⟨#[]⟩, .int .i64 0, .int .i64 0] hZX infoCm rfl (by simp [Value.oneCell']) ?_
      have hZY := (setRow_other _ bX bY #[.int .i64 x.office, .int .i64 x.hour, .int .i64 x.inn, .int .i64 x.out, .int .i64 x.store, .string x.prev, .int .i64 x.e, .int .i64 x.s] (hxXY.symm)).trans hZY
      have hZX := setRow_heap _ _ _ #[.int .i64 x.office, .int .i64 x.hour, .int .i64 x.inn, .int .i64 x.out, .int .i64 x.store, .string x.prev, .int .i64 x.e, .int .i64 x.s] _ _ hZX
      refine hK.out _ _ (hHeld.setOther hgX hnX _) (fun hHeld => ?_)
      clear hK K
      try simp only [Act.put]
      refine rd1 17 (fun K hK => ?_)
      rw [if_pos (by rfl)]
      refine wp_store_row 63 _ _ rfl bY #[.int .i64 y.office, .int .i64 y.hour, .int .i64 y.inn, .int .i64 y.out, .int .i64 y.store, .string y.prev, .int .i64 y.e, .int .i64 y.s] rfl rfl 63 #[.int .i64 0, .int .i64 0, .int .i64 0, .int .i64 0, .int .i64 0, .string ⟨#[]⟩, .int .i64 0, .int .i64 0] hZY infoCm rfl (by simp [Value.oneCell']) ?_
      have hZX := (setRow_other _ bY bX #[.int .i64 y.office, .int .i64 y.hour, .int .i64 y.inn, .int .i64 y.out, .int .i64 y.store, .string y.prev, .int .i64 y.e, .int .i64 y.s] (hxXY)).trans hZX
      have hZY := setRow_heap _ _ _ #[.int .i64 y.office, .int .i64 y.hour, .int .i64 y.inn, .int .i64 y.out, .int .i64 y.store, .string y.prev, .int .i64 y.e, .int .i64 y.s] _ _ hZY
      refine hK.out _ _ (hHeld.setOther hgY hnY _) (fun hHeld => ?_)
      clear hK K
      try simp only [Act.put]
      refine tn 18 ?_
      try simp only [Act.put, aL1, aL2, aL3]
      refine rdone (NoPanic.normal ?_)
      have HRL := Lib.hid ((hHeld.cons hZY hgY hnY).cons hZX hgX (fun h => (List.mem_cons.1 h).elim (fun e => hxXY e) hnX))
      go_wp2_with fail
      go_meet
      exact ⟨bX, bY, rfl, rfl, rfl, HRL.out⟩
  obtain ⟨bX, bY, rfl, rfl, rfl, hr2⟩ := hcut
  have HR2 := Lib.hid hr2
  clear hr2 HR
  rcases HXY.out with ⟨hf2, -, -, rfl⟩ | ⟨hf2, rfl⟩
  · have HF : Hid (two (j : Int) 1 (first2 (laterB (hoursF pubs) (netP j) (unbalB err)) L L) = none) := Lib.hid (by rw [hf2]; rfl)
    clear hf2
    go_wp2_with (refine wpList_store_row rfl 40 _ _ rfl w.heap.size #[.int .i64 0, .int .i64 0, .slice none 0 0, .int .i64 0, .int .i64 0, .int .i64 0, .int .i64 0, .int .i64 0, .int .i64 0] rfl rfl 40 #[.int .i64 0, .int .i64 0, .slice none 0 0, .int .i64 0, .int .i64 0, .int .i64 0, .int .i64 0, .int .i64 0, .int .i64 0] (HR2.out.row 2 rfl) infoBl rfl (by simp [Value.oneCell']) ?_)
    have HRZ := Lib.hid (HR2.out.set (i := 2) (cs' := #[.int .i64 0, .int .i64 0, .slice none 0 0, .int .i64 0, .int .i64 0, .int .i64 0, .int .i64 0, .int .i64 0, .int .i64 0]) rfl)
    exact bodyPost_ret (v := .tuple #[.agg #[.int .i64 0, .int .i64 0, .slice none 0 0, .int .i64 0, .int .i64 0, .int .i64 0, .int .i64 0, .int .i64 0, .int .i64 0], .bool false]) (Eq.trans (results_row_tmp rfl _ _ w.heap.size 40 #[.int .i64 0, .int .i64 0, .slice none 0 0, .int .i64 0, .int .i64 0, .int .i64 0, .int .i64 0, .int .i64 0, .int .i64 0] (0, 0) _ rfl (HRZ.out.row 2 rfl) undBl rfl infoBl) rfl) rfl (retF_none HF.out HRZ.out.below)
  · have HF : Hid (two (j : Int) 1 (first2 (laterB (hoursF pubs) (netP j) (unbalB err)) L L) = some ⟨(j : Int), 1, [x, y], zeroP⟩) := Lib.hid (by rw [hf2]; rfl)
    obtain ⟨hcm, hdm, -⟩ := first2_some hf2
    have hcg := good_of HSO.out.l hcm
    have hdg := good_of HSO.out.l hdm
    clear hf2 hcm hdm
    rename World => w2
    have HR4 := Lib.hid (HR2.out.alloc (.cells #[.int .i64 x.office, .int .i64 x.hour, .int .i64 x.inn, .int .i64 x.out, .int .i64 x.store, .string x.prev, .int .i64 x.e, .int .i64 x.s, .int .i64 y.office, .int .i64 y.hour, .int .i64 y.inn, .int .i64 y.out, .int .i64 y.store, .string y.prev, .int .i64 y.e, .int .i64 y.s] 63))
    go_wp2_with (first | (refine wpList_load_rowW (by first | (go_simp; done) | rfl) 63 _ rfl _ rfl 63 _ _ _ (HR2.out.row 0 rfl) undCm rfl infoCm ?_) | (refine wpList_load_rowW (by first | (go_simp; done) | rfl) 63 _ rfl _ rfl 63 _ _ _ (HR2.out.row 1 rfl) undCm rfl infoCm ?_))
    have HL1 : Hid (LArg RC 8 (.slice (some ⟨w2.heap.size, 0, none⟩) 2 2) [x, y] (w2.alloc (.cells #[.int .i64 x.office, .int .i64 x.hour, .int .i64 x.inn, .int .i64 x.out, .int .i64 x.store, .string x.prev, .int .i64 x.e, .int .i64 x.s, .int .i64 y.office, .int .i64 y.hour, .int .i64 y.inn, .int .i64 y.out, .int .i64 y.store, .string y.prev, .int .i64 y.e, .int .i64 y.s] 63))) := Lib.hid (larg_rowC (l := [x, y]) (heap_alloc_new _ _) (by
      intro x hx
      simp only [List.mem_cons, List.not_mem_nil, or_false] at hx
      rcases hx with rfl | rfl
      all_goals assumption) (by simp))
    have hgeb : w.heap.size ≤ w2.heap.size := HR2.out.below.size
    have hne : w2.heap.size ≠ w.heap.size := (Nat.ne_of_lt (blk_lt (HR2.out.row 2 rfl))).symm
    generalize (w2.alloc (.cells #[.int .i64 x.office, .int .i64 x.hour, .int .i64 x.inn, .int .i64 x.out, .int .i64 x.store, .string x.prev, .int .i64 x.e, .int .i64 x.s, .int .i64 y.office, .int .i64 y.hour, .int .i64 y.inn, .int .i64 y.out, .int .i64 y.store, .string y.prev, .int .i64 y.e, .int .i64 y.s] 63)) = w6 at *
    generalize w2.heap.size = bs at *
    refine (proof_any (j : Int) 1 (some ⟨bs, 0, none⟩) 2 2 _).mono ?_
    rintro e w7 ⟨rfl, hb7⟩
    have HR7 := Lib.hid (HR4.out.step hb7)
    have HL7 := Lib.hid (HL1.out.below stays_RC hb7)
    clear hb7 HL1 HR4 HR2
    go_wp2_with (refine wpList_store_row rfl 40 _ _ rfl w.heap.size #[.int .i64 (j : Int), .int .i64 1, .slice (some ⟨bs, 0, none⟩) 2 2, .int .i64 0, .int .i64 0, .int .i64 0, .int .i64 0, .int .i64 0, .int .i64 0] rfl rfl 40 #[.int .i64 0, .int .i64 0, .slice none 0 0, .int .i64 0, .int .i64 0, .int .i64 0, .int .i64 0, .int .i64 0, .int .i64 0] (HR7.out.row 2 rfl) infoBl rfl (by simp [Value.oneCell']) ?_)
    have HRZ := Lib.hid (HR7.out.set (i := 2) (cs' := #[.int .i64 (j : Int), .int .i64 1, .slice (some ⟨bs, 0, none⟩) 2 2, .int .i64 0, .int .i64 0, .int .i64 0, .int .i64 0, .int .i64 0, .int .i64 0]) rfl)
    exact bodyPost_ret (v := .tuple #[.agg #[.int .i64 (j : Int), .int .i64 1, .slice (some ⟨bs, 0, none⟩) 2 2, .int .i64 0, .int .i64 0, .int .i64 0, .int .i64 0, .int .i64 0, .int .i64 0], .bool true]) (Eq.trans (results_row_tmp rfl _ _ w.heap.size 40 #[.int .i64 (j : Int), .int .i64 1, .slice (some ⟨bs, 0, none⟩) 2 2, .int .i64 0, .int .i64 0, .int .i64 0, .int .i64 0, .int .i64 0, .int .i64 0] (0, 0) _ rfl (HRZ.out.row 2 rfl) undBl rfl infoBl) rfl) rfl (retF_some (p := zeroP) HF.out (larg_setRow HL7.out hne _) hgeb HRZ.out.below)
end Go.Proofs.YtjbjpkhibcnenaaGreatDoor

