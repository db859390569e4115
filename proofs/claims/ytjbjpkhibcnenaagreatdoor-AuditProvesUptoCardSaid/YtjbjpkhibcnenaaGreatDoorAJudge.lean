/- The judge of package audit, in memory, and its small methods. -/
import Derived.Test.YtjbjpkhibcnenaaGreatDoorASums
namespace Go.Proofs.YtjbjpkhibcnenaaGreatDoor
open Go.RowKit
/-- a judge in memory -/
structure JudgeAt (jb mb : Nat) (ar ap : Option Addr) (cr cp : Nat) (err : Int) (room ps : List Int) (pubs : List PublicV) (w : World) : Prop where
  row : w.heap[jb]? = some (.cells #[.int .i64 err, .slice ar 3 cr, .slice ap 3 cp, .map (some mb)] 102 (0, 0))
  lroom : LArg RInt 1 (.slice ar 3 cr) room w
  lpubs : LArg RInt 1 (.slice ap 3 cp) ps w
  hours : HoursAt mb pubs w
  lr : room.length = 3
  lp : ps.length = 3
  e0 : 0 ≤ err ∧ err ≤ 1099511627776
  r0 : ∀ r ∈ room, 0 ≤ r ∧ r ≤ 1125899906842624
theorem JudgeAt.below {jb mb : Nat} {ar ap : Option Addr} {cr cp : Nat} {err : Int} {room ps : List Int} {pubs : List PublicV} {w w' : World} (h : JudgeAt jb mb ar ap cr cp err room ps pubs w) (hb : Below w.heap.size w w') : JudgeAt jb mb ar ap cr cp err room ps pubs w' :=
  ⟨blk_below h.row hb (blk_lt h.row), h.lroom.below stays_int hb, h.lpubs.below stays_int hb, h.hours.below hb, h.lr, h.lp, h.e0, h.r0⟩
def officeB (o : Int) : Bool := decide (0 ≤ o ∧ o < 3)
theorem officeB_t {o : Int} (h : 0 ≤ o ∧ o < 3) : officeB o = true := decide_eq_true h
theorem officeB_f {o : Int} (h : ¬ (0 ≤ o ∧ o < 3)) : officeB o = false := decide_eq_false h
set_option maxRecDepth 100000 in
set_option maxHeartbeats 4000000 in
theorem office_any (jb mb : Nat) (ar ap : Option Addr) (cr cp : Nat) (err : Int) (room ps : List Int) (pubs : List PublicV) (o : Int) (w : World) (hJ : JudgeAt jb mb ar ap cr cp err room ps pubs w) : Calls Tryz.prog 32 #[.pointer (some ⟨jb, 0, none⟩), .int .i64 o] w fun e w' => e = .returned (.bool (officeB o)) ∧ w = w' := by
  have c2 := rowN hJ.row 2 (.slice ap 3 cp) rfl
  clear hJ
  by_cases h1 : 0 ≤ o
  · by_cases h2 : o < 3
    · have HE := Lib.hid (officeB_t ⟨h1, h2⟩)
      go_enter Tryz.func32, Tryz.ntmps32
      go_wp2_with fail
      go_ret
      exact ⟨ret_bool HE.out.symm, rfl⟩
    · have HE := Lib.hid (officeB_f (fun h => h2 h.2))
      go_enter Tryz.func32, Tryz.ntmps32
      go_wp2_with fail
      go_ret
      exact ⟨ret_bool HE.out.symm, rfl⟩
  · have HE := Lib.hid (officeB_f (fun h => h1 h.1))
    go_enter Tryz.func32, Tryz.ntmps32
    go_wp2_with fail
    go_ret
    exact ⟨ret_bool HE.out.symm, rfl⟩
set_option maxRecDepth 100000 in
set_option maxHeartbeats 4000000 in
theorem beyond_any (n : Int) (s : SpanV) (k : Int) (w : World) (hs : SpI s) (hk : 0 ≤ k ∧ k ≤ 9223372036854775807) : Calls Tryz.prog 88 #[.int .i64 n, .agg #[.int .i64 s.lo, .int .i64 s.hi], .int .i64 k] w (RetB (beyondB n s k) w) := by
  have F1 : IntKind.i64.wrap (-k) = -k := IntWalk.i64_in _ (by omega)
  have HR := Lib.hid ((RowsS.nil w).alloc (.cells #[.int .i64 s.lo, .int .i64 s.hi] 53))
  have HC := Lib.hid (heap_alloc_new w (.cells #[.int .i64 s.lo, .int .i64 s.hi] 53))
  go_enter Tryz.func88, Tryz.ntmps88
  go_wp2_with (first | (refine wpList_load_rowW (by first | (go_simp; done) | rfl) 53 _ rfl _ rfl 53 _ _ _ HC.out undSp rfl infoSp ?_))
  refine (addSp_any s ⟨-k, k⟩ _ hs ⟨⟨by dsimp only; omega, by dsimp only; omega⟩, ⟨by dsimp only; omega, by dsimp only; omega⟩⟩).mono ?_
  rintro e w1 ⟨rfl, hb1⟩
  have HR1 := Lib.hid (HR.out.step hb1)
  have HT : Hid (beyondB n s k = (decide (n < addS s.lo (-k)) || decide (addS s.hi k < n))) := Lib.hid (by unfold beyondB; by_cases h1 : n < addS s.lo (-k) <;> simp [h1])
  obtain ⟨x, hx⟩ : ∃ x, x = addS s.lo (-k) := ⟨_, rfl⟩
  obtain ⟨y, hy⟩ : ∃ y, y = addS s.hi k := ⟨_, rfl⟩
  have e1 : (addSp s ⟨-k, k⟩).lo = x := hx.symm
  have e2 : (addSp s ⟨-k, k⟩).hi = y := hy.symm
  rw [e1, e2]
  rw [← hx, ← hy] at HT
  have HR2 := Lib.hid (HR1.out.alloc (.cells #[.int .i64 x, .int .i64 y] 53))
  clear hb1 HR HC HR1 hx hy e1 e2 F1
  by_cases h1 : n < x
  · have HT1 : Hid (beyondB n s k = true) := Lib.hid (by rw [HT.out]; simp [h1])
    go_wp2_with fail
    go_ret
    exact retB_mk (by first | exact HT1.out | exact HT.out) HR2.out.below
  · by_cases h2 : y < n
    · have HT1 : Hid (beyondB n s k = true) := Lib.hid (by rw [HT.out]; simp [h2])
      go_wp2_with fail
      go_ret
      exact retB_mk (by first | exact HT1.out | exact HT.out) HR2.out.below
    · have HT1 : Hid (beyondB n s k = false) := Lib.hid (by rw [HT.out]; simp [h1, h2])
      go_wp2_with fail
      go_ret
      exact retB_mk (by first | exact HT1.out | exact HT.out) HR2.out.below
/-- a claim's numbers -/
def CNum (c : CV) : Prop := (-1152921504606846976 ≤ c.inn ∧ c.inn ≤ 1152921504606846976) ∧ (-1152921504606846976 ≤ c.out ∧ c.out ≤ 1152921504606846976) ∧ (-1152921504606846976 ≤ c.store ∧ c.store ≤ 1152921504606846976)
set_option maxRecDepth 100000 in
set_option maxHeartbeats 4000000 in
theorem unbalanced_any (jb mb : Nat) (ar ap : Option Addr) (cr cp : Nat) (err : Int) (room ps : List Int) (pubs : List PublicV) (c d : CV) (n : SpanV) (w : World) (hJ : JudgeAt jb mb ar ap cr cp err room ps pubs w) (hc : CNum c) (hd : CNum d) (hn : SpI n) : Calls Tryz.prog 53 #[.pointer (some ⟨jb, 0, none⟩), .agg #[.int .i64 c.office, .int .i64 c.hour, .int .i64 c.inn, .int .i64 c.out, .int .i64 c.store, .string c.prev, .int .i64 c.e, .int .i64 c.s], .agg #[.int .i64 d.office, .int .i64 d.hour, .int .i64 d.inn, .int .i64 d.out, .int .i64 d.store, .string d.prev, .int .i64 d.e, .int .i64 d.s], .agg #[.int .i64 n.lo, .int .i64 n.hi]] w (RetB (unbalB err c d n) w) := by
  have HJ := Lib.hid hJ.row
  have hjl := blk_lt hJ.row
  have he := hJ.e0
  unfold CNum at hc hd
  have W1 : IntKind.i64.wrap (d.store - c.store) = d.store - c.store := IntWalk.i64_in _ (by omega)
  have W2 : IntKind.i64.wrap (d.inn - c.inn) = d.inn - c.inn := IntWalk.i64_in _ (by omega)
  have W3 : IntKind.i64.wrap ((d.store - c.store) - (d.inn - c.inn)) = (d.store - c.store) - (d.inn - c.inn) := IntWalk.i64_in _ (by omega)
  have W4 : IntKind.i64.wrap (d.out - c.out) = d.out - c.out := IntWalk.i64_in _ (by omega)
  have W5 : IntKind.i64.wrap ((d.store - c.store) - (d.inn - c.inn) + (d.out - c.out)) = (d.store - c.store) - (d.inn - c.inn) + (d.out - c.out) := IntWalk.i64_in _ (by omega)
  have W6 : IntKind.i64.wrap (6 * err) = 6 * err := IntWalk.i64_in _ (by omega)
  have s1 : (w.alloc (.cells #[.int .i64 c.office, .int .i64 c.hour, .int .i64 c.inn, .int .i64 c.out, .int .i64 c.store, .string c.prev, .int .i64 c.e, .int .i64 c.s] 63)).heap.size = w.heap.size + 1 := by simp
  have s2 : ((w.alloc (.cells #[.int .i64 c.office, .int .i64 c.hour, .int .i64 c.inn, .int .i64 c.out, .int .i64 c.store, .string c.prev, .int .i64 c.e, .int .i64 c.s] 63)).alloc (.cells #[.int .i64 d.office, .int .i64 d.hour, .int .i64 d.inn, .int .i64 d.out, .int .i64 d.store, .string d.prev, .int .i64 d.e, .int .i64 d.s] 63)).heap.size = w.heap.size + 1 + 1 := by simp
  have HR : Hid (RowsS w [(w.heap.size, .cells #[.int .i64 c.office, .int .i64 c.hour, .int .i64 c.inn, .int .i64 c.out, .int .i64 c.store, .string c.prev, .int .i64 c.e, .int .i64 c.s] 63), ((w.heap.size + 1), .cells #[.int .i64 d.office, .int .i64 d.hour, .int .i64 d.inn, .int .i64 d.out, .int .i64 d.store, .string d.prev, .int .i64 d.e, .int .i64 d.s] 63), ((w.heap.size + 1 + 1), .cells #[.int .i64 n.lo, .int .i64 n.hi] 53)] (((w.alloc (.cells #[.int .i64 c.office, .int .i64 c.hour, .int .i64 c.inn, .int .i64 c.out, .int .i64 c.store, .string c.prev, .int .i64 c.e, .int .i64 c.s] 63)).alloc (.cells #[.int .i64 d.office, .int .i64 d.hour, .int .i64 d.inn, .int .i64 d.out, .int .i64 d.store, .string d.prev, .int .i64 d.e, .int .i64 d.s] 63)).alloc (.cells #[.int .i64 n.lo, .int .i64 n.hi] 53))) := Lib.hid (by
    have := (((RowsS.nil w).alloc (.cells #[.int .i64 c.office, .int .i64 c.hour, .int .i64 c.inn, .int .i64 c.out, .int .i64 c.store, .string c.prev, .int .i64 c.e, .int .i64 c.s] 63)).alloc (.cells #[.int .i64 d.office, .int .i64 d.hour, .int .i64 d.inn, .int .i64 d.out, .int .i64 d.store, .string d.prev, .int .i64 d.e, .int .i64 d.s] 63)).alloc (.cells #[.int .i64 n.lo, .int .i64 n.hi] 53)
    rw [s1, s2] at this
    exact this)
  clear hJ s1 s2
  go_enter Tryz.func53, Tryz.ntmps53
  go_upto_region 1 with fail
  generalize ((w.alloc (.cells #[.int .i64 c.office, .int .i64 c.hour, .int .i64 c.inn, .int .i64 c.out, .int .i64 c.store, .string c.prev, .int .i64 c.e, .int .i64 c.s] 63)).alloc (.cells #[.int .i64 d.office, .int .i64 d.hour, .int .i64 d.inn, .int .i64 d.out, .int .i64 d.store, .string d.prev, .int .i64 d.e, .int .i64 d.s] 63)).alloc (.cells #[.int .i64 n.lo, .int .i64 n.hi] 53) = w0 at *
  refine wp_region_noPanic ?_
  refine wp_region_held_drew (S := fun cw => RowsS w [(w.heap.size, .cells #[.int .i64 c.office, .int .i64 c.hour, .int .i64 c.inn, .int .i64 c.out, .int .i64 c.store, .string c.prev, .int .i64 c.e, .int .i64 c.s] 63), ((w.heap.size + 1), .cells #[.int .i64 d.office, .int .i64 d.hour, .int .i64 d.inn, .int .i64 d.out, .int .i64 d.store, .string d.prev, .int .i64 d.e, .int .i64 d.s] 63), ((w.heap.size + 1 + 1), .cells #[.int .i64 n.lo, .int .i64 n.hi] 53)] cw) (by kernel_rfl) (HR.out.drew) (fun hHeld => ?_)
  refine tn 0 ?_
  try simp only [Act.put, aL1, aL2, aL3]
  refine tn 1 ?_ (hx := fun wz hSw => by have e4 := hSw.cell 1 4 rfl rfl; go_simp; try with_reducible rfl)
  try simp only [Act.put, aL1, aL2, aL3]
  refine tn 2 ?_
  try simp only [Act.put, aL1, aL2, aL3]
  refine tn 3 ?_ (hx := fun wz hSw => by have e4 := hSw.cell 0 4 rfl rfl; go_simp; try with_reducible rfl)
  try simp only [Act.put, aL1, aL2, aL3]
  refine tn 4 ?_
  try simp only [Act.put, aL1, aL2, aL3]
  refine tn 5 ?_
  try simp only [Act.put, aL1, aL2, aL3]
  refine tn 6 ?_ (hx := fun wz hSw => by have e4 := hSw.cell 1 2 rfl rfl; go_simp; try with_reducible rfl)
  try simp only [Act.put, aL1, aL2, aL3]
  refine tn 7 ?_
  try simp only [Act.put, aL1, aL2, aL3]
  refine tn 8 ?_ (hx := fun wz hSw => by have e4 := hSw.cell 0 2 rfl rfl; go_simp; try with_reducible rfl)
  try simp only [Act.put, aL1, aL2, aL3]
  refine tn 9 ?_
  try simp only [Act.put, aL1, aL2, aL3]
  refine tn 10 ?_
  try simp only [Act.put, aL1, aL2, aL3]
  refine tn 11 ?_
  try simp only [Act.put, aL1, aL2, aL3]
  refine tn 12 ?_ (hx := fun wz hSw => by have e4 := hSw.cell 1 3 rfl rfl; go_simp; try with_reducible rfl)
  try simp only [Act.put, aL1, aL2, aL3]
  refine tn 13 ?_
  try simp only [Act.put, aL1, aL2, aL3]
  refine tn 14 ?_ (hx := fun wz hSw => by have e4 := hSw.cell 0 3 rfl rfl; go_simp; try with_reducible rfl)
  try simp only [Act.put, aL1, aL2, aL3]
  refine tn 15 ?_
  try simp only [Act.put, aL1, aL2, aL3]
  refine tn 16 ?_
  try simp only [Act.put, aL1, aL2, aL3]
  refine tn 17 ?_ (hx := fun wz hSw => by refine exec_load_row 53 ?_ ?_ _ ?_ 53 _ _ _ (hSw.row 2 rfl) undSp rfl infoSp; rotate_left 1; exact rfl; exact rfl)
  try simp only [Act.put, aL1, aL2, aL3]
  refine tn 18 ?_
  try simp only [Act.put, aL1, aL2, aL3]
  refine tn 19 ?_
  try simp only [Act.put, aL1, aL2, aL3]
  refine tn 20 ?_
  try simp only [Act.put, aL1, aL2, aL3]
  refine tn 21 ?_ (hx := fun wz hSw => by have e4 := hSw.old HJ 0 rfl; go_simp; try with_reducible rfl)
  try simp only [Act.put, aL1, aL2, aL3]
  refine tn 22 ?_
  try simp only [Act.put, aL1, aL2, aL3]
  refine rd1 23 (fun K hK => ?_)
  go_simp
  refine (beyond_any ((d.store - c.store) - (d.inn - c.inn) + (d.out - c.out)) n (6 * err) _ hn ⟨by omega, by omega⟩).mono ?_
  rintro e w' ⟨rfl, hb⟩
  refine hK.out _ _ (hHeld.step hb) (fun hHeld => ?_)
  clear hK K
  try simp only [Act.put, aL1, aL2, aL3]
  refine tn 24 ?_
  try simp only [Act.put, aL1, aL2, aL3]
  refine rdone (NoPanic.normal ?_)
  go_wp2_with fail
  go_ret
  exact retB_mk rfl hHeld.below
set_option maxRecDepth 100000 in
set_option maxHeartbeats 4000000 in
theorem contradicts_any (jb mb : Nat) (ar ap : Option Addr) (cr cp : Nat) (err : Int) (room ps : List Int) (pubs : List PublicV) (c d : CV) (n : SpanV) (w : World) (hJ : JudgeAt jb mb ar ap cr cp err room ps pubs w) (hc : CNum c) (hd : CNum d) (hn : SpI n) : Calls Tryz.prog 56 #[.pointer (some ⟨jb, 0, none⟩), .agg #[.int .i64 c.office, .int .i64 c.hour, .int .i64 c.inn, .int .i64 c.out, .int .i64 c.store, .string c.prev, .int .i64 c.e, .int .i64 c.s], .agg #[.int .i64 d.office, .int .i64 d.hour, .int .i64 d.inn, .int .i64 d.out, .int .i64 d.store, .string d.prev, .int .i64 d.e, .int .i64 d.s], .agg #[.int .i64 n.lo, .int .i64 n.hi]] w (RetB (contrB err c d n) w) := by
  have HJ := Lib.hid hJ.row
  have hjl := blk_lt hJ.row
  have he := hJ.e0
  unfold CNum at hc hd
  have W4 : IntKind.i64.wrap (d.out - c.out) = d.out - c.out := IntWalk.i64_in _ (by omega)
  have W6 : IntKind.i64.wrap (2 * err) = 2 * err := IntWalk.i64_in _ (by omega)
  have s1 : (w.alloc (.cells #[.int .i64 c.office, .int .i64 c.hour, .int .i64 c.inn, .int .i64 c.out, .int .i64 c.store, .string c.prev, .int .i64 c.e, .int .i64 c.s] 63)).heap.size = w.heap.size + 1 := by simp
  have s2 : ((w.alloc (.cells #[.int .i64 c.office, .int .i64 c.hour, .int .i64 c.inn, .int .i64 c.out, .int .i64 c.store, .string c.prev, .int .i64 c.e, .int .i64 c.s] 63)).alloc (.cells #[.int .i64 d.office, .int .i64 d.hour, .int .i64 d.inn, .int .i64 d.out, .int .i64 d.store, .string d.prev, .int .i64 d.e, .int .i64 d.s] 63)).heap.size = w.heap.size + 1 + 1 := by simp
  have HR : Hid (RowsS w [(w.heap.size, .cells #[.int .i64 c.office, .int .i64 c.hour, .int .i64 c.inn, .int .i64 c.out, .int .i64 c.store, .string c.prev, .int .i64 c.e, .int .i64 c.s] 63), ((w.heap.size + 1), .cells #[.int .i64 d.office, .int .i64 d.hour, .int .i64 d.inn, .int .i64 d.out, .int .i64 d.store, .string d.prev, .int .i64 d.e, .int .i64 d.s] 63), ((w.heap.size + 1 + 1), .cells #[.int .i64 n.lo, .int .i64 n.hi] 53)] (((w.alloc (.cells #[.int .i64 c.office, .int .i64 c.hour, .int .i64 c.inn, .int .i64 c.out, .int .i64 c.store, .string c.prev, .int .i64 c.e, .int .i64 c.s] 63)).alloc (.cells #[.int .i64 d.office, .int .i64 d.hour, .int .i64 d.inn, .int .i64 d.out, .int .i64 d.store, .string d.prev, .int .i64 d.e, .int .i64 d.s] 63)).alloc (.cells #[.int .i64 n.lo, .int .i64 n.hi] 53))) := Lib.hid (by
    have := (((RowsS.nil w).alloc (.cells #[.int .i64 c.office, .int .i64 c.hour, .int .i64 c.inn, .int .i64 c.out, .int .i64 c.store, .string c.prev, .int .i64 c.e, .int .i64 c.s] 63)).alloc (.cells #[.int .i64 d.office, .int .i64 d.hour, .int .i64 d.inn, .int .i64 d.out, .int .i64 d.store, .string d.prev, .int .i64 d.e, .int .i64 d.s] 63)).alloc (.cells #[.int .i64 n.lo, .int .i64 n.hi] 53)
    rw [s1, s2] at this
    exact this)
  clear hJ s1 s2
  go_enter Tryz.func56, Tryz.ntmps56
  go_upto_region 1 with fail
  generalize ((w.alloc (.cells #[.int .i64 c.office, .int .i64 c.hour, .int .i64 c.inn, .int .i64 c.out, .int .i64 c.store, .string c.prev, .int .i64 c.e, .int .i64 c.s] 63)).alloc (.cells #[.int .i64 d.office, .int .i64 d.hour, .int .i64 d.inn, .int .i64 d.out, .int .i64 d.store, .string d.prev, .int .i64 d.e, .int .i64 d.s] 63)).alloc (.cells #[.int .i64 n.lo, .int .i64 n.hi] 53) = w0 at *
  refine wp_region_noPanic ?_
  refine wp_region_held_drew (S := fun cw => RowsS w [(w.heap.size, .cells #[.int .i64 c.office, .int .i64 c.hour, .int .i64 c.inn, .int .i64 c.out, .int .i64 c.store, .string c.prev, .int .i64 c.e, .int .i64 c.s] 63), ((w.heap.size + 1), .cells #[.int .i64 d.office, .int .i64 d.hour, .int .i64 d.inn, .int .i64 d.out, .int .i64 d.store, .string d.prev, .int .i64 d.e, .int .i64 d.s] 63), ((w.heap.size + 1 + 1), .cells #[.int .i64 n.lo, .int .i64 n.hi] 53)] cw) (by kernel_rfl) (HR.out.drew) (fun hHeld => ?_)
  refine tn 0 ?_
  try simp only [Act.put, aL1, aL2, aL3]
  refine tn 1 ?_ (hx := fun wz hSw => by have e4 := hSw.cell 1 3 rfl rfl; go_simp; try with_reducible rfl)
  try simp only [Act.put, aL1, aL2, aL3]
  refine tn 2 ?_
  try simp only [Act.put, aL1, aL2, aL3]
  refine tn 3 ?_ (hx := fun wz hSw => by have e4 := hSw.cell 0 3 rfl rfl; go_simp; try with_reducible rfl)
  try simp only [Act.put, aL1, aL2, aL3]
  refine tn 4 ?_
  try simp only [Act.put, aL1, aL2, aL3]
  refine tn 5 ?_ (hx := fun wz hSw => by refine exec_load_row 53 ?_ ?_ _ ?_ 53 _ _ _ (hSw.row 2 rfl) undSp rfl infoSp; rotate_left 1; exact rfl; exact rfl)
  try simp only [Act.put, aL1, aL2, aL3]
  refine tn 6 ?_
  try simp only [Act.put, aL1, aL2, aL3]
  refine tn 7 ?_
  try simp only [Act.put, aL1, aL2, aL3]
  refine tn 8 ?_
  try simp only [Act.put, aL1, aL2, aL3]
  refine tn 9 ?_ (hx := fun wz hSw => by have e4 := hSw.old HJ 0 rfl; go_simp; try with_reducible rfl)
  try simp only [Act.put, aL1, aL2, aL3]
  refine tn 10 ?_
  try simp only [Act.put, aL1, aL2, aL3]
  refine rd1 11 (fun K hK => ?_)
  go_simp
  refine (beyond_any (d.out - c.out) n (2 * err) _ hn ⟨by omega, by omega⟩).mono ?_
  rintro e w' ⟨rfl, hb⟩
  refine hK.out _ _ (hHeld.step hb) (fun hHeld => ?_)
  clear hK K
  try simp only [Act.put, aL1, aL2, aL3]
  refine tn 12 ?_
  try simp only [Act.put, aL1, aL2, aL3]
  refine rdone (NoPanic.normal ?_)
  go_wp2_with fail
  go_ret
  exact retB_mk rfl hHeld.below
end Go.Proofs.YtjbjpkhibcnenaaGreatDoor

