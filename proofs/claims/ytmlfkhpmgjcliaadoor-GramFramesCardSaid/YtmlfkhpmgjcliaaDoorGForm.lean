/- Package gram: wellFormed. -/
import Derived.Test.YtmlfkhpmgjcliaaDoorGNum
import Derived.BigQuiet
import Derived.StillTailTactics
import Derived.Laws.StructEq
import Derived.Deep.RegionHeld3
namespace Go.Proofs.YtmlfkhpmgjcliaaDoor
open Go.RowKit
def gCells (g : GV) : Array Value := #[.int .i64 g.gauge, .int .i64 g.seq, .int .i64 g.clock, .int .i64 g.value, .string g.tag]
def row4 (a b c d : Int) : Array Value := #[.int .i64 a, .int .i64 b, .int .i64 c, .int .i64 d]
def clampZ (lo hi n : Int) : Int := max lo (min hi n)
theorem three_rows {w : World} {A B C : Obj} : (((w.alloc A).alloc B).alloc C).heap[w.heap.size]? = some A ∧ (((w.alloc A).alloc B).alloc C).heap[w.heap.size + 1]? = some B ∧ (((w.alloc A).alloc B).alloc C).heap[w.heap.size + 1 + 1]? = some C := by
  refine ⟨?_, ?_, ?_⟩
  · rw [heap_alloc_old _ _ (by simp; omega), heap_alloc_old _ _ (by simp), heap_alloc_new]
  · have h : w.heap.size + 1 = (w.alloc A).heap.size := by simp
    rw [heap_alloc_old _ _ (by simp), h, heap_alloc_new]
  · have h : w.heap.size + 1 + 1 = ((w.alloc A).alloc B).heap.size := by simp
    rw [h, heap_alloc_new]
def lim (g : GV) (k : Nat) : Array Value :=
  row4 (if 0 < k then clampZ 0 127 g.gauge else g.gauge) (if 1 < k then clampZ 0 1099511627776 g.seq else g.seq) (if 2 < k then clampZ 0 1006633019 g.clock else g.clock) (if 3 < k then clampZ (-1099511627776) 1099511627776 g.value else g.value)
def lowR : Array Value := row4 0 0 0 (-1099511627776)
def highR : Array Value := row4 127 1099511627776 1006633019 1099511627776
/-- the facts on memory that wellFormed's loop keeps -/
structure FInvG (w : World) (nl : Nat) (g : GV) (k : Nat) (wr : World) : Prop where
  hg : wr.heap[w.heap.size]? = some (.cells #[.int .i64 g.gauge, .int .i64 g.seq, .int .i64 g.clock, .int .i64 g.value, .string g.tag] 23 (0, 0))
  hl : wr.heap[w.heap.size + 1]? = some (.cells lowR 89 (0, 0))
  hh : wr.heap[w.heap.size + 1 + 1]? = some (.cells highR 89 (0, 0))
  hn : wr.heap[nl]? = some (.cells (lim g k) 89 (0, 0))
  lt : w.heap.size + 1 + 1 < nl
  below : Below w.heap.size w wr
theorem FInvG.drew {w : World} {nl : Nat} {g : GV} {k : Nat} {wr : World} (h : FInvG w nl g k wr) : FInvG w nl g k wr.drew := ⟨h.hg, h.hl, h.hh, h.hn, h.lt, h.below.drew⟩
theorem FInvG.set {w : World} {nl : Nat} {g : GV} {k : Nat} {wr : World} (h : FInvG w nl g k wr) (z : Int) (hz : (lim g k).setIfInBounds k (.int .i64 z) = lim g (k + 1)) : FInvG w nl g (k + 1) (wr.setCell ⟨nl, k, none⟩ (.int .i64 z)) := by
  have hlt := h.lt
  refine ⟨?_, ?_, ?_, ?_, h.lt, h.below.setCell (by show w.heap.size ≤ nl; omega) _⟩
  · rw [heap_setCell_other _ _ _ _ (by show w.heap.size ≠ nl; omega)]; exact h.hg
  · rw [heap_setCell_other _ _ _ _ (by show w.heap.size + 1 ≠ nl; omega)]; exact h.hl
  · rw [heap_setCell_other _ _ _ _ (by show w.heap.size + 1 + 1 ≠ nl; omega)]; exact h.hh
  · rw [heap_setCell_same _ _ _ _ _ _ h.hn, hz]
theorem clampZ_same {lo hi n : Int} (hlh : lo ≤ hi) : clampZ lo hi n = n ↔ lo ≤ n ∧ n ≤ hi := by
  unfold clampZ
  omega
theorem formed_iff (g : GV) : (clampZ 0 127 g.gauge = g.gauge ∧ clampZ 0 1099511627776 g.seq = g.seq ∧ clampZ 0 1006633019 g.clock = g.clock ∧ clampZ (-1099511627776) 1099511627776 g.value = g.value) ∧ g.tag.size = 8 ↔ Formed g := by
  rw [clampZ_same (by decide), clampZ_same (by decide), clampZ_same (by decide), clampZ_same (by decide)]
  unfold Formed
  omega
theorem s9_step {w cur w' : World} {na nb : Nat} {a0 a1 a2 a3 b0 b1 b2 b3 b4 : Value} (h : cur.cell? ⟨na, 0, none⟩ = some a0 ∧ cur.cell? ⟨na, 1, none⟩ = some a1 ∧ cur.cell? ⟨na, 2, none⟩ = some a2 ∧ cur.cell? ⟨na, 3, none⟩ = some a3 ∧ cur.cell? ⟨nb, 0, none⟩ = some b0 ∧ cur.cell? ⟨nb, 1, none⟩ = some b1 ∧ cur.cell? ⟨nb, 2, none⟩ = some b2 ∧ cur.cell? ⟨nb, 3, none⟩ = some b3 ∧ cur.cell? ⟨nb, 4, none⟩ = some b4 ∧ na < cur.heap.size ∧ nb < cur.heap.size ∧ Below w.heap.size w cur) (hb : Below cur.heap.size cur w') : w'.cell? ⟨na, 0, none⟩ = some a0 ∧ w'.cell? ⟨na, 1, none⟩ = some a1 ∧ w'.cell? ⟨na, 2, none⟩ = some a2 ∧ w'.cell? ⟨na, 3, none⟩ = some a3 ∧ w'.cell? ⟨nb, 0, none⟩ = some b0 ∧ w'.cell? ⟨nb, 1, none⟩ = some b1 ∧ w'.cell? ⟨nb, 2, none⟩ = some b2 ∧ w'.cell? ⟨nb, 3, none⟩ = some b3 ∧ w'.cell? ⟨nb, 4, none⟩ = some b4 ∧ na < w'.heap.size ∧ nb < w'.heap.size ∧ Below w.heap.size w w' := by
  obtain ⟨h0, h1, h2, h3, h4, h5, h6, h7, h8, h9, h10, h11⟩ := h
  exact ⟨(hb.cell (p := ⟨na, 0, none⟩) h9).trans h0, (hb.cell (p := ⟨na, 1, none⟩) h9).trans h1, (hb.cell (p := ⟨na, 2, none⟩) h9).trans h2, (hb.cell (p := ⟨na, 3, none⟩) h9).trans h3, (hb.cell (p := ⟨nb, 0, none⟩) h10).trans h4, (hb.cell (p := ⟨nb, 1, none⟩) h10).trans h5, (hb.cell (p := ⟨nb, 2, none⟩) h10).trans h6, (hb.cell (p := ⟨nb, 3, none⟩) h10).trans h7, (hb.cell (p := ⟨nb, 4, none⟩) h10).trans h8, Nat.lt_of_lt_of_le h9 hb.size, Nat.lt_of_lt_of_le h10 hb.size, h11.trans (hb.mono h11.size)⟩
theorem s9_drew {w cur : World} {na nb : Nat} {a0 a1 a2 a3 b0 b1 b2 b3 b4 : Value} (h : cur.cell? ⟨na, 0, none⟩ = some a0 ∧ cur.cell? ⟨na, 1, none⟩ = some a1 ∧ cur.cell? ⟨na, 2, none⟩ = some a2 ∧ cur.cell? ⟨na, 3, none⟩ = some a3 ∧ cur.cell? ⟨nb, 0, none⟩ = some b0 ∧ cur.cell? ⟨nb, 1, none⟩ = some b1 ∧ cur.cell? ⟨nb, 2, none⟩ = some b2 ∧ cur.cell? ⟨nb, 3, none⟩ = some b3 ∧ cur.cell? ⟨nb, 4, none⟩ = some b4 ∧ na < cur.heap.size ∧ nb < cur.heap.size ∧ Below w.heap.size w cur) : cur.drew.cell? ⟨na, 0, none⟩ = some a0 ∧ cur.drew.cell? ⟨na, 1, none⟩ = some a1 ∧ cur.drew.cell? ⟨na, 2, none⟩ = some a2 ∧ cur.drew.cell? ⟨na, 3, none⟩ = some a3 ∧ cur.drew.cell? ⟨nb, 0, none⟩ = some b0 ∧ cur.drew.cell? ⟨nb, 1, none⟩ = some b1 ∧ cur.drew.cell? ⟨nb, 2, none⟩ = some b2 ∧ cur.drew.cell? ⟨nb, 3, none⟩ = some b3 ∧ cur.drew.cell? ⟨nb, 4, none⟩ = some b4 ∧ na < cur.drew.heap.size ∧ nb < cur.drew.heap.size ∧ Below w.heap.size w cur.drew := by
  obtain ⟨h0, h1, h2, h3, h4, h5, h6, h7, h8, h9, h10, h11⟩ := h
  exact ⟨h0, h1, h2, h3, h4, h5, h6, h7, h8, h9, h10, h11.drew⟩
set_option maxRecDepth 100000 in
set_option maxHeartbeats 4000000 in
theorem wellFormed_any (g : GV) (w : World) (_hI : GOk g) :
    Calls Tryd.prog 29 #[.agg #[.int .i64 g.gauge, .int .i64 g.seq, .int .i64 g.clock, .int .i64 g.value, .string g.tag]] w
      fun e w' => e = .returned (.bool (decide (Formed g))) ∧ Below w.heap.size w w' := by
  go_enter Tryd.func29, Tryd.ntmps29
  go_wp2_with fail
  refine (numbers_any g _).mono ?_
  rintro e w1 ⟨rfl, hb⟩
  have hsz := hb.size
  simp only [World.size_alloc] at hsz
  have HI0 : Hid (FInvG w w1.heap.size g 0 (w1.alloc (.cells #[.int .i64 g.gauge, .int .i64 g.seq, .int .i64 g.clock, .int .i64 g.value] 89))) := Lib.hid ⟨by
      rw [heap_alloc_old _ _ (by omega), hb.block _ (by simp; omega)]; exact three_rows.1, by
      rw [heap_alloc_old _ _ (by omega), hb.block _ (by simp)]; exact three_rows.2.1, by
      rw [heap_alloc_old _ _ (by omega), hb.block _ (by simp)]; exact three_rows.2.2, heap_alloc_new _ _, by omega,
      ((((((Below.refl _ _).alloc (Nat.le_refl _) _).alloc (by simp) _).alloc (by simp; omega) _).trans (hb.mono (by simp; omega))).alloc (by omega) _)⟩
  clear hb
  go_wp2_with fail
  go_loopw [13] (fun iv wr => ∃ (k : Nat) (z : Int), k ≤ 4 ∧ iv = .int .i64 z ∧ z = k ∧ FInvG w w1.heap.size g k wr) (fun iv _ => 4 - (intOf iv).toNat)
  case atStart => exact ⟨0, 0, by omega, rfl, rfl, HI0.out⟩
  case round =>
    obtain ⟨k, z, hk, rfl, hz, hI⟩ := hrel
    have HI := Lib.hid hI
    clear hI HI0
    rcases (by omega : k = 0 ∨ k = 1 ∨ k = 2 ∨ k = 3 ∨ k = 4) with rfl | rfl | rfl | rfl | rfl
    · obtain rfl : z = 0 := hz
      have hix := fun w => index4 g.gauge g.seq g.clock g.value 0 (by decide) w
      change ∀ w, (Instr.index 89 (.agg #[.int .i64 g.gauge, .int .i64 g.seq, .int .i64 g.clock, .int .i64 g.value]) (.int .i64 0)).run Tryd.prog w = .ok (.int .i64 g.gauge) w at hix
      have c1 : wr.cell? ⟨w.heap.size + 1, 0, none⟩ = some (.int .i64 (0)) := by rw [cell_of_row _ _ _ _ _ _ HI.out.hl]; rfl
      have c2 : wr.cell? ⟨w.heap.size + 1 + 1, 0, none⟩ = some (.int .i64 127) := by rw [cell_of_row _ _ _ _ _ _ HI.out.hh]; rfl
      go_wp2_with fail
      go_still_tail 11, (by kernel_rfl)
      change wpList _ _ _ _ _ wr.drew
      have HI2 := Lib.hid HI.out.drew
      generalize wr.drew = w2 at *
      have hf : w2.frozen? ⟨w1.heap.size, 0, none⟩ = false := frozen_of_row _ _ _ _ _ HI2.out.hn
      have hc : w2.cell? ⟨w1.heap.size, 0, none⟩ = some (.int .i64 g.gauge) := by rw [cell_of_row _ _ _ _ _ _ HI2.out.hn]; rfl
      clear HI c1 c2
      go_wp2_with fail
      go_roundw
      case rel => exact ⟨1, 1, by omega, by go_num, rfl, HI2.out.set (clampZ (0) 127 g.gauge) rfl⟩
      case measure => simp [intOf]
    · obtain rfl : z = 1 := hz
      have hix := fun w => index4 g.gauge g.seq g.clock g.value 1 (by decide) w
      change ∀ w, (Instr.index 89 (.agg #[.int .i64 g.gauge, .int .i64 g.seq, .int .i64 g.clock, .int .i64 g.value]) (.int .i64 1)).run Tryd.prog w = .ok (.int .i64 g.seq) w at hix
      have c1 : wr.cell? ⟨w.heap.size + 1, 1, none⟩ = some (.int .i64 (0)) := by rw [cell_of_row _ _ _ _ _ _ HI.out.hl]; rfl
      have c2 : wr.cell? ⟨w.heap.size + 1 + 1, 1, none⟩ = some (.int .i64 1099511627776) := by rw [cell_of_row _ _ _ _ _ _ HI.out.hh]; rfl
      go_wp2_with fail
      go_still_tail 11, (by kernel_rfl)
      change wpList _ _ _ _ _ wr.drew
      have HI2 := Lib.hid HI.out.drew
      generalize wr.drew = w2 at *
      have hf : w2.frozen? ⟨w1.heap.size, 1, none⟩ = false := frozen_of_row _ _ _ _ _ HI2.out.hn
      have hc : w2.cell? ⟨w1.heap.size, 1, none⟩ = some (.int .i64 g.seq) := by rw [cell_of_row _ _ _ _ _ _ HI2.out.hn]; rfl
      clear HI c1 c2
      go_wp2_with fail
      go_roundw
      case rel => exact ⟨2, 2, by omega, by go_num, rfl, HI2.out.set (clampZ (0) 1099511627776 g.seq) rfl⟩
      case measure => simp [intOf]
    · obtain rfl : z = 2 := hz
      have hix := fun w => index4 g.gauge g.seq g.clock g.value 2 (by decide) w
      change ∀ w, (Instr.index 89 (.agg #[.int .i64 g.gauge, .int .i64 g.seq, .int .i64 g.clock, .int .i64 g.value]) (.int .i64 2)).run Tryd.prog w = .ok (.int .i64 g.clock) w at hix
      have c1 : wr.cell? ⟨w.heap.size + 1, 2, none⟩ = some (.int .i64 (0)) := by rw [cell_of_row _ _ _ _ _ _ HI.out.hl]; rfl
      have c2 : wr.cell? ⟨w.heap.size + 1 + 1, 2, none⟩ = some (.int .i64 1006633019) := by rw [cell_of_row _ _ _ _ _ _ HI.out.hh]; rfl
      go_wp2_with fail
      go_still_tail 11, (by kernel_rfl)
      change wpList _ _ _ _ _ wr.drew
      have HI2 := Lib.hid HI.out.drew
      generalize wr.drew = w2 at *
      have hf : w2.frozen? ⟨w1.heap.size, 2, none⟩ = false := frozen_of_row _ _ _ _ _ HI2.out.hn
      have hc : w2.cell? ⟨w1.heap.size, 2, none⟩ = some (.int .i64 g.clock) := by rw [cell_of_row _ _ _ _ _ _ HI2.out.hn]; rfl
      clear HI c1 c2
      go_wp2_with fail
      go_roundw
      case rel => exact ⟨3, 3, by omega, by go_num, rfl, HI2.out.set (clampZ (0) 1006633019 g.clock) rfl⟩
      case measure => simp [intOf]
    · obtain rfl : z = 3 := hz
      have hix := fun w => index4 g.gauge g.seq g.clock g.value 3 (by decide) w
      change ∀ w, (Instr.index 89 (.agg #[.int .i64 g.gauge, .int .i64 g.seq, .int .i64 g.clock, .int .i64 g.value]) (.int .i64 3)).run Tryd.prog w = .ok (.int .i64 g.value) w at hix
      have c1 : wr.cell? ⟨w.heap.size + 1, 3, none⟩ = some (.int .i64 (-1099511627776)) := by rw [cell_of_row _ _ _ _ _ _ HI.out.hl]; rfl
      have c2 : wr.cell? ⟨w.heap.size + 1 + 1, 3, none⟩ = some (.int .i64 1099511627776) := by rw [cell_of_row _ _ _ _ _ _ HI.out.hh]; rfl
      go_wp2_with fail
      go_still_tail 11, (by kernel_rfl)
      change wpList _ _ _ _ _ wr.drew
      have HI2 := Lib.hid HI.out.drew
      generalize wr.drew = w2 at *
      have hf : w2.frozen? ⟨w1.heap.size, 3, none⟩ = false := frozen_of_row _ _ _ _ _ HI2.out.hn
      have hc : w2.cell? ⟨w1.heap.size, 3, none⟩ = some (.int .i64 g.value) := by rw [cell_of_row _ _ _ _ _ _ HI2.out.hn]; rfl
      clear HI c1 c2
      go_wp2_with fail
      go_roundw
      case rel => exact ⟨4, 4, by omega, by go_num, rfl, HI2.out.set (clampZ (-1099511627776) 1099511627776 g.value) rfl⟩
      case measure => simp [intOf]
    · obtain rfl : z = 4 := hz
      have hF := formed_iff g
      have hn : wr.heap[w1.heap.size]? = some (.cells #[.int .i64 (clampZ 0 127 g.gauge), .int .i64 (clampZ 0 1099511627776 g.seq), .int .i64 (clampZ 0 1006633019 g.clock), .int .i64 (clampZ (-1099511627776) 1099511627776 g.value)] 89 (0, 0)) := HI.out.hn
      have hg := HI.out.hg
      have HBw := Lib.hid HI.out.below
      have hlt1 := blk_lt hn
      have hlt2 := blk_lt hg
      clear HI
      generalize clampZ 0 127 g.gauge = c0 at *
      generalize clampZ 0 1099511627776 g.seq = c1 at *
      generalize clampZ 0 1006633019 g.clock = c2 at *
      generalize clampZ (-1099511627776) 1099511627776 g.value = c3 at *
      obtain ⟨dF, hd⟩ : ∃ dF, dF = decide (Formed g) := ⟨_, rfl⟩
      have HF := Lib.hid hd
      have HFI := Lib.hid hF
      clear hF hd
      go_wp2_with fail
      have HS0 : Hid (wr.cell? ⟨w1.heap.size, 0, none⟩ = some (.int .i64 c0) ∧ wr.cell? ⟨w1.heap.size, 1, none⟩ = some (.int .i64 c1) ∧ wr.cell? ⟨w1.heap.size, 2, none⟩ = some (.int .i64 c2) ∧ wr.cell? ⟨w1.heap.size, 3, none⟩ = some (.int .i64 c3) ∧ wr.cell? ⟨w.heap.size, 0, none⟩ = some (.int .i64 g.gauge) ∧ wr.cell? ⟨w.heap.size, 1, none⟩ = some (.int .i64 g.seq) ∧ wr.cell? ⟨w.heap.size, 2, none⟩ = some (.int .i64 g.clock) ∧ wr.cell? ⟨w.heap.size, 3, none⟩ = some (.int .i64 g.value) ∧ wr.cell? ⟨w.heap.size, 4, none⟩ = some (.string g.tag) ∧ w1.heap.size < wr.heap.size ∧ w.heap.size < wr.heap.size ∧ Below w.heap.size w wr) := Lib.hid ⟨(cell_of_row _ _ _ _ _ _ hn).trans rfl, (cell_of_row _ _ _ _ _ _ hn).trans rfl, (cell_of_row _ _ _ _ _ _ hn).trans rfl, (cell_of_row _ _ _ _ _ _ hn).trans rfl, (cell_of_row _ _ _ _ _ _ hg).trans rfl, (cell_of_row _ _ _ _ _ _ hg).trans rfl, (cell_of_row _ _ _ _ _ _ hg).trans rfl, (cell_of_row _ _ _ _ _ _ hg).trans rfl, (cell_of_row _ _ _ _ _ _ hg).trans rfl, hlt1, hlt2, HBw.out⟩
      have heq := eq4 c0 c1 c2 c3 g.gauge g.seq g.clock g.value
      clear hn hg hlt1 hlt2
      by_cases hc : c0 = g.gauge ∧ c1 = g.seq ∧ c2 = g.clock ∧ c3 = g.value
      · rw [decide_eq_true hc] at heq
        have HD : Hid (dF = ((g.tag.size : Int) == 8)) := Lib.hid (by
          rw [HF.out]
          by_cases h8 : g.tag.size = 8
          · rw [decide_eq_true (HFI.out.mp ⟨hc, h8⟩)]
            simp [h8]
          · rw [decide_eq_false (fun h => h8 h.2.2.2.2.2.2.2.2)]
            have : ((g.tag.size : Int) == 8) = false := by rw [beq_eq_false_iff_ne]; omega
            rw [this])
        clear hc
        go_region_held3 (fun w' => w'.cell? ⟨w1.heap.size, 0, none⟩ = some (.int .i64 c0) ∧ w'.cell? ⟨w1.heap.size, 1, none⟩ = some (.int .i64 c1) ∧ w'.cell? ⟨w1.heap.size, 2, none⟩ = some (.int .i64 c2) ∧ w'.cell? ⟨w1.heap.size, 3, none⟩ = some (.int .i64 c3) ∧ w'.cell? ⟨w.heap.size, 0, none⟩ = some (.int .i64 g.gauge) ∧ w'.cell? ⟨w.heap.size, 1, none⟩ = some (.int .i64 g.seq) ∧ w'.cell? ⟨w.heap.size, 2, none⟩ = some (.int .i64 g.clock) ∧ w'.cell? ⟨w.heap.size, 3, none⟩ = some (.int .i64 g.value) ∧ w'.cell? ⟨w.heap.size, 4, none⟩ = some (.string g.tag) ∧ w1.heap.size < w'.heap.size ∧ w.heap.size < w'.heap.size ∧ Below w.heap.size w w') (first | exact s9_drew HS0.out | exact s9_step (by assumption) hb) ((first | (go_at_call 55; refine (numbers_any g _).mono ?_; rintro e w' ⟨rfl, hb⟩)))
        have HBf : Hid (Below w.heap.size w _) := Lib.hid (show _ ∧ _ ∧ _ ∧ _ ∧ _ ∧ _ ∧ _ ∧ _ ∧ _ ∧ _ ∧ _ ∧ Below w.heap.size w _ by assumption).2.2.2.2.2.2.2.2.2.2.2
        go_wp2_with fail
        go_ret
        exact ⟨by rw [← HF.out, HD.out]; rfl, HBf.out⟩
      · rw [decide_eq_false hc] at heq
        have HD : Hid (dF = false) := Lib.hid (by
          rw [HF.out]
          exact decide_eq_false (fun h => hc (HFI.out.mpr h).1))
        clear hc
        obtain ⟨d0, d1, d2, d3, d4, d5, d6, d7, d8, d9, d10, d11⟩ := HS0.out
        have HD11 := Lib.hid d11
        clear d11
        first | (go_region_with ((first | (go_at_call 55; refine (numbers_any g _).mono ?_; rintro e w' ⟨rfl, hb⟩; obtain ⟨e0, e1, e2, e3, e4, e5, e6, e7, e8, e9, e10, e11⟩ := s9_step (s9_drew HS0.out) hb; have HE11 := Lib.hid e11; clear hb e11)))) | fail
        all_goals go_wp2_with fail
        all_goals go_ret
        all_goals exact ⟨by rw [← HF.out, HD.out]; rfl, HE11.out⟩
end Go.Proofs.YtmlfkhpmgjcliaaDoor
