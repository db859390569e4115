/- audit.newJudge, conditions, Check. -/
import Derived.Test.YtjbjpkhibcnenaaGreatDoorACheckB
import Derived.Test.YtjbjpkhibcnenaaGreatDoorACheckP
import Derived.Test.YtjbjpkhibcnenaaGreatDoorACheckM
namespace Go.Proofs.YtjbjpkhibcnenaaGreatDoor
open Go.RowKit
theorem undBn : Tryz.prog.underlying 31 = some (.struct (Tryz.prog.fieldsOf 31)) := by kernel_rfl
theorem infoBn : (Tryz.prog.info? 31).map (·.size) = some 11 := by kernel_rfl
/-- what came in of a judge -/
structure JIn (ar ap : Option Addr) (cr cp : Nat) (err : Int) (room ps : List Int) (vq : Value) (pubs : List PublicV) (w : World) : Prop where
  lroom : LArg RInt 1 (.slice ar 3 cr) room w
  lpubs : LArg RInt 1 (.slice ap 3 cp) ps w
  lq : LArg RPublic 4 vq pubs w
  lr : room.length = 3
  lp : ps.length = 3
  e0 : 0 ≤ err ∧ err ≤ 1099511627776
  r0 : ∀ r ∈ room, 0 ≤ r ∧ r ≤ 1125899906842624
  hl : pubs.length ≤ 1000
theorem JIn.below {ar ap : Option Addr} {cr cp : Nat} {err : Int} {room ps : List Int} {vq : Value} {pubs : List PublicV} {w w' : World} (h : JIn ar ap cr cp err room ps vq pubs w) (hb : Below w.heap.size w w') : JIn ar ap cr cp err room ps vq pubs w' :=
  ⟨h.lroom.below stays_int hb, h.lpubs.below stays_int hb, h.lq.below stays_Public hb, h.lr, h.lp, h.e0, h.r0, h.hl⟩
theorem JIn.pbI {ar ap : Option Addr} {cr cp : Nat} {err : Int} {room ps : List Int} {vq : Value} {pubs : List PublicV} {w : World} (h : JIn ar ap cr cp err room ps vq pubs w) : ∀ p ∈ pubs, PbI p := fun p hp => by
  obtain ⟨j, hj⟩ := List.getElem?_of_mem hp
  obtain ⟨a, c, rfl, _⟩ := h.lq.slice
  obtain ⟨b, o, cs, _, _, _, _, v, _, h1, h2, h3, h4⟩ := h.lq.at hj
  refine ⟨h1, ⟨h2, h3⟩, fun s hs => ?_⟩
  obtain ⟨i, hi⟩ := List.getElem?_of_mem hs
  obtain ⟨a2, c2, rfl, _⟩ := h4.slice
  obtain ⟨_, _, _, _, _, _, _, _, h5⟩ := h4.at hi
  exact h5
def RetJ (ar ap : Option Addr) (cr cp : Nat) (err : Int) (room ps : List Int) (pubs : List PublicV) (w : World) (e : Ending) (w' : World) : Prop :=
  ∃ jb mb, e = .returned (.pointer (some ⟨jb, 0, none⟩)) ∧ JudgeAt jb mb ar ap cr cp err room ps pubs w' ∧ w.heap.size ≤ jb ∧ Below w.heap.size w w'
set_option maxRecDepth 100000 in
set_option maxHeartbeats 4000000 in
theorem newJudge_any (x : BsX) (ar ap : Option Addr) (cr cp : Nat) (err : Int) (room ps : List Int) (vq : Value) (pubs : List PublicV) (w : World) (hI : JIn ar ap cr cp err room ps vq pubs w) : Calls Tryz.prog 23 #[.agg #[.string x.nm, .slice x.a1 x.n1 x.c1, .int .i64 x.k, .slice x.a3 x.n3 x.c3, .slice x.a4 x.n4 x.c4, .slice x.a5 x.n5 x.c5, .slice x.a6 x.n6 x.c6, .slice x.a7 x.n7 x.c7, .slice x.a8 x.n8 x.c8, .slice ar 3 cr, .int .i64 err], .slice ap 3 cp, vq] w (RetJ ar ap cr cp err room ps pubs w) := by
  have HI := Lib.hid hI
  clear hI
  have HR := Lib.hid ((RowsS.nil w).alloc (.cells #[.string x.nm, .slice x.a1 x.n1 x.c1, .int .i64 x.k, .slice x.a3 x.n3 x.c3, .slice x.a4 x.n4 x.c4, .slice x.a5 x.n5 x.c5, .slice x.a6 x.n6 x.c6, .slice x.a7 x.n7 x.c7, .slice x.a8 x.n8 x.c8, .slice ar 3 cr, .int .i64 err] 31))
  go_enter Tryz.func23, Tryz.ntmps23
  go_upto_region 1 with fail
  generalize w.alloc (.cells #[.string x.nm, .slice x.a1 x.n1 x.c1, .int .i64 x.k, .slice x.a3 x.n3 x.c3, .slice x.a4 x.n4 x.c4, .slice x.a5 x.n5 x.c5, .slice x.a6 x.n6 x.c6, .slice x.a7 x.n7 x.c7, .slice x.a8 x.n8 x.c8, .slice ar 3 cr, .int .i64 err] 31) = w0 at *
  refine wp_region_noPanic ?_
  refine wp_region_held_drew (S := fun cw => RowsS w [(w.heap.size, .cells #[.string x.nm, .slice x.a1 x.n1 x.c1, .int .i64 x.k, .slice x.a3 x.n3 x.c3, .slice x.a4 x.n4 x.c4, .slice x.a5 x.n5 x.c5, .slice x.a6 x.n6 x.c6, .slice x.a7 x.n7 x.c7, .slice x.a8 x.n8 x.c8, .slice ar 3 cr, .int .i64 err] 31)] cw) (by kernel_rfl) (HR.out.drew) (fun hHeld => ?_)
  refine tn 0 ?_
  try simp only [Act.put, aL1, aL2, aL3]
  refine tn 1 ?_ (hx := fun wz hSw => by have e4 := hSw.cell 0 10 rfl rfl; go_simp; try with_reducible rfl)
  try simp only [Act.put, aL1, aL2, aL3]
  refine tn 2 ?_
  try simp only [Act.put, aL1, aL2, aL3]
  refine tn 3 ?_ (hx := fun wz hSw => by have e4 := hSw.cell 0 9 rfl rfl; go_simp; try with_reducible rfl)
  try simp only [Act.put, aL1, aL2, aL3]
  refine tn 4 ?_
  try simp only [Act.put, aL1, aL2, aL3]
  refine tn 5 ?_
  try simp only [Act.put, aL1, aL2, aL3]
  refine rd1 6 (fun K hK => ?_)
  go_simp
  refine (byHour_any pubs vq _ (HI.out.lq.below stays_Public hHeld.below) HI.out.hl).mono ?_
  rintro e w' ⟨mb, rfl, hH, hb⟩
  refine hK.out _ _ (hHeld.step hb) (fun hHeld => ?_)
  clear hK K
  try simp only [Act.put, aL1, aL2, aL3]
  refine tn 7 ?_
  try simp only [Act.put, aL1, aL2, aL3]
  refine rd1 8 (fun K hK => ?_)
  go_simp
  obtain ⟨jb, hbe, hS1, hZJ, hgJ, hnJ, hbA⟩ := hHeld.allocB (.cells #[.int .i64 err, .slice ar 3 cr, .slice ap 3 cp, .map (some mb)] 102)
  have hH := hH.below hbA
  try simp only [World.alloc, Array.size_push] at hbe
  rw [← hbe]
  refine hK.out _ _ hS1 (fun hHeld => ?_)
  clear hK K hS1 hbe hbA
  try simp only [Act.put, aL1, aL2, aL3]
  refine tn 9 ?_
  try simp only [Act.put, aL1, aL2, aL3]
  refine rdone (NoPanic.normal ?_)
  go_wp2_with fail
  go_ret
  have hbs := hHeld.below
  exact ⟨_, mb, rfl, ⟨hZJ, HI.out.lroom.below stays_int hbs, HI.out.lpubs.below stays_int hbs, hH, HI.out.lr, HI.out.lp, HI.out.e0, HI.out.r0⟩, hgJ, hbs⟩
set_option maxRecDepth 100000 in
set_option maxHeartbeats 4000000 in
theorem conditions_any (jb : Nat) (w : World) : Calls Tryz.prog 31 #[.pointer (some ⟨jb, 0, none⟩)] w fun e w' => e = .returned (.slice (some ⟨w.heap.size, 0, none⟩) 6 6) ∧ w' = w.alloc (.cells #[.func (.func 62) #[.pointer (some ⟨jb, 0, none⟩)] #[], .func (.func 63) #[.pointer (some ⟨jb, 0, none⟩)] #[], .func (.func 64) #[.pointer (some ⟨jb, 0, none⟩)] #[], .func (.func 65) #[.pointer (some ⟨jb, 0, none⟩)] #[], .func (.func 66) #[.pointer (some ⟨jb, 0, none⟩)] #[], .func (.func 67) #[.pointer (some ⟨jb, 0, none⟩)] #[]] 79) := by
  go_enter Tryz.func31, Tryz.ntmps31
  go_wp2_with fail
  go_ret
  exact ⟨rfl, rfl⟩
end Go.Proofs.YtjbjpkhibcnenaaGreatDoor

