/- Package gram: core, tag. -/
import Derived.Test.YtmlfkhpmgjcliaaDoorGNum
import Derived.Test.YtmlfkhpmgjcliaaDoorSum
import Derived.Deep.RegionHeld3
namespace Go.Proofs.YtmlfkhpmgjcliaaDoor
open Go.RowKit
/-- the text after the first k numbers -/
def corePre (g : GV) (k : Nat) : List UInt8 :=
  (if 0 < k then intL g.gauge else []) ++ ((if 1 < k then intL g.seq else []) ++ ((if 2 < k then intL g.clock else []) ++ (if 3 < k then intL g.value else [])))
theorem corePre_4 (g : GV) : corePre g 4 = coreL g := rfl
theorem corePre_len {g : GV} (h : GOk g) (k : Nat) : (corePre g k).length ≤ 36 := by
  have h1 := intL_len h.1; have h2 := intL_len h.2.1; have h3 := intL_len h.2.2.1; have h4 := intL_len h.2.2.2
  have e : ∀ (c : Prop) [Decidable c] (l : List UInt8), (if c then l else []).length ≤ l.length := fun c _ l => by split <;> simp
  have e1 := e (0 < k) (intL g.gauge); have e2 := e (1 < k) (intL g.seq); have e3 := e (2 < k) (intL g.clock); have e4 := e (3 < k) (intL g.value)
  unfold corePre
  simp only [List.length_append]
  omega
set_option maxRecDepth 100000 in
set_option maxHeartbeats 4000000 in
theorem core_any (g : GV) (w : World) (hO : GOk g) :
    Calls Tryd.prog 37 #[.agg #[.int .i64 g.gauge, .int .i64 g.seq, .int .i64 g.clock, .int .i64 g.value, .string g.tag]] w
      fun e w' => e = .returned (.string ⟨(coreL g).toArray⟩) ∧ Below w.heap.size w w' := by
  have HO := Lib.hid hO
  clear hO
  go_enter Tryd.func37, Tryd.ntmps37
  go_wp2_with fail
  have hI := Lib.fresh_isBuilder 72 5 (w.alloc (.cells #[.int .i64 g.gauge, .int .i64 g.seq, .int .i64 g.clock, .int .i64 g.value, .string g.tag] 23))
  have hB0 : Below w.heap.size w ((w.alloc (.cells #[.int .i64 g.gauge, .int .i64 g.seq, .int .i64 g.clock, .int .i64 g.value, .string g.tag] 23)).alloc (.cells #[.pointer none, .slice none 0 0] 72)) := ((Below.refl _ _).alloc (Nat.le_refl _) _).alloc (by simp) _
  rw [World.size_alloc] at hI
  have hs0 : w.heap.size + 1 ≤ ((w.alloc (.cells #[.int .i64 g.gauge, .int .i64 g.seq, .int .i64 g.clock, .int .i64 g.value, .string g.tag] 23)).alloc (.cells #[.pointer none, .slice none 0 0] 72)).heap.size := by simp
  refine (numbers_any g _).mono ?_
  rintro e w1 ⟨rfl, hb⟩
  have HI0 : Hid (Lib.IsBuilder 72 5 (w.heap.size + 1) (w.heap.size + 1) (Lib.byteCells (corePre g 0)) w1) := Lib.hid (builder_up hI hb)
  have HB0 := Lib.hid (hB0.trans (hb.mono hB0.size))
  have hs1 := Nat.le_trans hs0 hb.size
  clear hI hB0 hb hs0
  go_wp2_with fail
  go_loopw [8] (fun iv wr => ∃ (k : Nat) (z : Int), k ≤ 4 ∧ iv = .int .i64 z ∧ z = k ∧ Lib.IsBuilder 72 5 (w.heap.size + 1) (w.heap.size + 1) (Lib.byteCells (corePre g k)) wr ∧ Below w.heap.size w wr ∧ w.heap.size + 1 ≤ wr.heap.size) (fun iv _ => 4 - (intOf iv).toNat)
  case atStart => exact ⟨0, 0, by omega, rfl, rfl, HI0.out, HB0.out, hs1⟩
  case round =>
    obtain ⟨k, z, hk, rfl, hz, hI, hB, hlt⟩ := hrel
    clear HI0 HB0 hs1
    have HI := Lib.hid hI
    have HB := Lib.hid hB
    clear hI hB
    rcases (by omega : k = 0 ∨ k = 1 ∨ k = 2 ∨ k = 3 ∨ k = 4) with rfl | rfl | rfl | rfl | rfl
    · obtain rfl : z = 0 := hz
      have hix := fun w => index4 g.gauge g.seq g.clock g.value 0 (by decide) w
      change ∀ w, (Instr.index 89 (.agg #[.int .i64 g.gauge, .int .i64 g.seq, .int .i64 g.clock, .int .i64 g.value]) (.int .i64 0)).run Tryd.prog w = .ok (.int .i64 g.gauge) w at hix
      go_wp2_with fail
      refine (int_any g.gauge _ HO.out.1).mono ?_
      rintro e w2 ⟨rfl, hb⟩
      have HI2 := Lib.hid (builder_up HI.out hb)
      have HB2 := Lib.hid (HB.out.trans (hb.mono HB.out.size))
      have hlt2 := Nat.le_trans hlt hb.size
      clear hb
      have hS : Hid (corePre g 1 = corePre g 0 ++ intL g.gauge) := Lib.hid (by simp [corePre])
      go_wp2_with fail
      refine (writeString_any (w.heap.size + 1) (w.heap.size + 1) _ _ _ HI2.out (by
        have h5 := corePre_len HO.out 0
        have h6 := intL_len HO.out.1
        rw [Lib.byteCells_length, show (ByteArray.mk ((intL g.gauge).toArray)).size = (intL g.gauge).length from rfl]
        omega) (by omega)).mono ?_
      rintro e w3 ⟨rfl, hI3, hB3⟩
      have HI3 : Hid (Lib.IsBuilder 72 5 (w.heap.size + 1) (w.heap.size + 1) (Lib.byteCells (corePre g 1)) w3) := by
        refine Lib.hid (Or.inr ?_)
        rw [hS.out, byteCells_append]
        rw [strCells_byteCells] at hI3
        exact hI3
      have HB3 := Lib.hid (HB2.out.trans (hB3.mono (Nat.le_succ _)))
      have hlt3 := Nat.le_trans hlt2 hB3.size
      clear hI3 hB3
      go_wp2_with fail
      go_roundw
      case rel => exact ⟨1, 1, by omega, by go_num, rfl, HI3.out, HB3.out, hlt3⟩
      case measure => simp [intOf]
    · obtain rfl : z = 1 := hz
      have hix := fun w => index4 g.gauge g.seq g.clock g.value 1 (by decide) w
      change ∀ w, (Instr.index 89 (.agg #[.int .i64 g.gauge, .int .i64 g.seq, .int .i64 g.clock, .int .i64 g.value]) (.int .i64 1)).run Tryd.prog w = .ok (.int .i64 g.seq) w at hix
      go_wp2_with fail
      refine (int_any g.seq _ HO.out.2.1).mono ?_
      rintro e w2 ⟨rfl, hb⟩
      have HI2 := Lib.hid (builder_up HI.out hb)
      have HB2 := Lib.hid (HB.out.trans (hb.mono HB.out.size))
      have hlt2 := Nat.le_trans hlt hb.size
      clear hb
      have hS : Hid (corePre g 2 = corePre g 1 ++ intL g.seq) := Lib.hid (by simp [corePre])
      go_wp2_with fail
      refine (writeString_any (w.heap.size + 1) (w.heap.size + 1) _ _ _ HI2.out (by
        have h5 := corePre_len HO.out 1
        have h6 := intL_len HO.out.2.1
        rw [Lib.byteCells_length, show (ByteArray.mk ((intL g.seq).toArray)).size = (intL g.seq).length from rfl]
        omega) (by omega)).mono ?_
      rintro e w3 ⟨rfl, hI3, hB3⟩
      have HI3 : Hid (Lib.IsBuilder 72 5 (w.heap.size + 1) (w.heap.size + 1) (Lib.byteCells (corePre g 2)) w3) := by
        refine Lib.hid (Or.inr ?_)
        rw [hS.out, byteCells_append]
        rw [strCells_byteCells] at hI3
        exact hI3
      have HB3 := Lib.hid (HB2.out.trans (hB3.mono (Nat.le_succ _)))
      have hlt3 := Nat.le_trans hlt2 hB3.size
      clear hI3 hB3
      go_wp2_with fail
      go_roundw
      case rel => exact ⟨2, 2, by omega, by go_num, rfl, HI3.out, HB3.out, hlt3⟩
      case measure => simp [intOf]
    · obtain rfl : z = 2 := hz
      have hix := fun w => index4 g.gauge g.seq g.clock g.value 2 (by decide) w
      change ∀ w, (Instr.index 89 (.agg #[.int .i64 g.gauge, .int .i64 g.seq, .int .i64 g.clock, .int .i64 g.value]) (.int .i64 2)).run Tryd.prog w = .ok (.int .i64 g.clock) w at hix
      go_wp2_with fail
      refine (int_any g.clock _ HO.out.2.2.1).mono ?_
      rintro e w2 ⟨rfl, hb⟩
      have HI2 := Lib.hid (builder_up HI.out hb)
      have HB2 := Lib.hid (HB.out.trans (hb.mono HB.out.size))
      have hlt2 := Nat.le_trans hlt hb.size
      clear hb
      have hS : Hid (corePre g 3 = corePre g 2 ++ intL g.clock) := Lib.hid (by simp [corePre])
      go_wp2_with fail
      refine (writeString_any (w.heap.size + 1) (w.heap.size + 1) _ _ _ HI2.out (by
        have h5 := corePre_len HO.out 2
        have h6 := intL_len HO.out.2.2.1
        rw [Lib.byteCells_length, show (ByteArray.mk ((intL g.clock).toArray)).size = (intL g.clock).length from rfl]
        omega) (by omega)).mono ?_
      rintro e w3 ⟨rfl, hI3, hB3⟩
      have HI3 : Hid (Lib.IsBuilder 72 5 (w.heap.size + 1) (w.heap.size + 1) (Lib.byteCells (corePre g 3)) w3) := by
        refine Lib.hid (Or.inr ?_)
        rw [hS.out, byteCells_append]
        rw [strCells_byteCells] at hI3
        exact hI3
      have HB3 := Lib.hid (HB2.out.trans (hB3.mono (Nat.le_succ _)))
      have hlt3 := Nat.le_trans hlt2 hB3.size
      clear hI3 hB3
      go_wp2_with fail
      go_roundw
      case rel => exact ⟨3, 3, by omega, by go_num, rfl, HI3.out, HB3.out, hlt3⟩
      case measure => simp [intOf]
    · obtain rfl : z = 3 := hz
      have hix := fun w => index4 g.gauge g.seq g.clock g.value 3 (by decide) w
      change ∀ w, (Instr.index 89 (.agg #[.int .i64 g.gauge, .int .i64 g.seq, .int .i64 g.clock, .int .i64 g.value]) (.int .i64 3)).run Tryd.prog w = .ok (.int .i64 g.value) w at hix
      go_wp2_with fail
      refine (int_any g.value _ HO.out.2.2.2).mono ?_
      rintro e w2 ⟨rfl, hb⟩
      have HI2 := Lib.hid (builder_up HI.out hb)
      have HB2 := Lib.hid (HB.out.trans (hb.mono HB.out.size))
      have hlt2 := Nat.le_trans hlt hb.size
      clear hb
      have hS : Hid (corePre g 4 = corePre g 3 ++ intL g.value) := Lib.hid (by simp [corePre])
      go_wp2_with fail
      refine (writeString_any (w.heap.size + 1) (w.heap.size + 1) _ _ _ HI2.out (by
        have h5 := corePre_len HO.out 3
        have h6 := intL_len HO.out.2.2.2
        rw [Lib.byteCells_length, show (ByteArray.mk ((intL g.value).toArray)).size = (intL g.value).length from rfl]
        omega) (by omega)).mono ?_
      rintro e w3 ⟨rfl, hI3, hB3⟩
      have HI3 : Hid (Lib.IsBuilder 72 5 (w.heap.size + 1) (w.heap.size + 1) (Lib.byteCells (corePre g 4)) w3) := by
        refine Lib.hid (Or.inr ?_)
        rw [hS.out, byteCells_append]
        rw [strCells_byteCells] at hI3
        exact hI3
      have HB3 := Lib.hid (HB2.out.trans (hB3.mono (Nat.le_succ _)))
      have hlt3 := Nat.le_trans hlt2 hB3.size
      clear hI3 hB3
      go_wp2_with fail
      go_roundw
      case rel => exact ⟨4, 4, by omega, by go_num, rfl, HI3.out, HB3.out, hlt3⟩
      case measure => simp [intOf]
    · obtain rfl : z = 4 := hz
      have HI' : Hid (Lib.IsBuilder 72 5 (w.heap.size + 1) (w.heap.size + 1) (Lib.byteCells (coreL g)) wr) := HI
      clear HI
      go_wp2_with fail
      refine (Tryd.Builder_String_any _ _ _ _ HI'.out hlt).mono ?_
      rintro e w2 ⟨rfl, hb⟩
      have HB2 := Lib.hid (HB.out.trans (hb.mono (Nat.le_succ _)))
      clear hb
      go_wp2_with fail
      go_ret
      exact ⟨rfl, HB2.out⟩
end Go.Proofs.YtmlfkhpmgjcliaaDoor
