/- Package gram: Genuine; equality of telegrams. -/
import Derived.Test.YtmlfkhpmgjcliaaDoorGRead
import Derived.Laws.StructEq
namespace Go.Proofs.YtmlfkhpmgjcliaaDoor
open Go.RowKit
theorem str_eq' {s t : ByteArray} (h : s.toList = t.toList) : s = t := by
  rw [ByteArray.toList_eq, ByteArray.toList_eq] at h
  cases s; cases t; simp at h; rw [h]
theorem eqG (a b c d a' b' c' d' : Int) (s s' : ByteArray) (w : World) : (Op.equalIn 10000 23 (.agg #[.int .i64 a, .int .i64 b, .int .i64 c, .int .i64 d, .string s]) (.agg #[.int .i64 a', .int .i64 b', .int .i64 c', .int .i64 d', .string s'])).run Tryd.prog w = .ok (decide (a = a' ∧ b = b' ∧ c = c' ∧ d = d' ∧ s = s')) w := by
  have u3 := Tryd.underlying3
  have a3 := Tryd.isAgg3
  have z3 := Tryd.sizeOf3
  have u9 := Tryd.underlying9
  have a9 := Tryd.isAgg9
  have z9 := Tryd.sizeOf9
  have hS : Tryd.prog.underlying 23 = some (.struct (Tryd.prog.fieldsOf 23)) := by kernel_rfl
  have hp : Tryd.prog.stoodInHeld 23 = false := by kernel_rfl
  rw [show (10000 : Nat) = 9999 + 1 from rfl, run_equalIn_agg w 9999 23 _ _ hS hp]
  simp only [Program.fieldsOf, Tryd.underlying23]
  go_simp
  have hs : (s.toList == s'.toList) = decide (s = s') := by
    by_cases h : s = s'
    · rw [h]; simp
    · rw [decide_eq_false h, beq_eq_false_iff_ne]
      exact fun e => h (str_eq' e)
  have hs2 : (s.toList = s'.toList) = (s = s') := propext ⟨str_eq', fun e => by rw [e]⟩
  by_cases h1 : a = a' <;> by_cases h2 : b = b' <;> by_cases h3 : c = c' <;> by_cases h4 : d = d' <;> by_cases h5 : s = s' <;> simp [h1, h2, h3, h4, h5, hs2]
def genB (s : ByteArray) (g : GV) : Bool := decide (Formed g ∧ g.tag = ⟨(tagL s g).toArray⟩)
set_option maxRecDepth 100000 in
set_option maxHeartbeats 4000000 in
theorem genuine_any (s : ByteArray) (g : GV) (w : World) (hs : s.size ≤ 300) (hO : GOk g) (hG : Glob w) (hM : MLen w) :
    Calls Tryd.prog 14 #[.string s, .agg #[.int .i64 g.gauge, .int .i64 g.seq, .int .i64 g.clock, .int .i64 g.value, .string g.tag]] w
      fun e w' => e = .returned (.bool (genB s g)) ∧ Below w.heap.size w w' := by
  have HG := Lib.hid hG
  have HM := Lib.hid hM
  obtain ⟨T, hT⟩ : ∃ T, T = (⟨(tagL s g).toArray⟩ : ByteArray) := ⟨_, rfl⟩
  have HT : Hid (∀ w', Glob w' → MLen w' → Calls Tryd.prog 35 #[.string s, .agg #[.int .i64 g.gauge, .int .i64 g.seq, .int .i64 g.clock, .int .i64 g.value, .string g.tag]] w' fun e w'' => e = .returned (.string T) ∧ Below w'.heap.size w' w'') := Lib.hid (fun w' h1 h2 => by rw [hT]; exact tag_any s g _ hs hO h1 h2)
  have hB0 : Below w.heap.size w (w.alloc (.cells #[.int .i64 g.gauge, .int .i64 g.seq, .int .i64 g.clock, .int .i64 g.value, .string g.tag] 23)) := (Below.refl _ _).alloc (Nat.le_refl _) _
  have h0 := heap_alloc_new w (.cells #[.int .i64 g.gauge, .int .i64 g.seq, .int .i64 g.clock, .int .i64 g.value, .string g.tag] 23)
  obtain ⟨W, hW⟩ : ∃ W, W = w.alloc (.cells #[.int .i64 g.gauge, .int .i64 g.seq, .int .i64 g.clock, .int .i64 g.value, .string g.tag] 23) := ⟨_, rfl⟩
  rw [← hW] at h0 hB0
  have HS1 : Hid (W.cell? ⟨w.heap.size, 0, none⟩ = some (.int .i64 g.gauge) ∧ W.cell? ⟨w.heap.size, 1, none⟩ = some (.int .i64 g.seq) ∧ W.cell? ⟨w.heap.size, 2, none⟩ = some (.int .i64 g.clock) ∧ W.cell? ⟨w.heap.size, 3, none⟩ = some (.int .i64 g.value) ∧ W.cell? ⟨w.heap.size, 4, none⟩ = some (.string g.tag) ∧ w.heap.size < W.heap.size ∧ Below w.heap.size w W) := Lib.hid (by
    refine ⟨?_, ?_, ?_, ?_, ?_, ?_, ?_⟩
    · exact (cell_of_row _ _ _ _ _ _ h0).trans rfl
    · exact (cell_of_row _ _ _ _ _ _ h0).trans rfl
    · exact (cell_of_row _ _ _ _ _ _ h0).trans rfl
    · exact (cell_of_row _ _ _ _ _ _ h0).trans rfl
    · exact (cell_of_row _ _ _ _ _ _ h0).trans rfl
    · exact blk_lt h0
    · exact hB0)
  have HS0 : Hid (W.drew.cell? ⟨w.heap.size, 0, none⟩ = some (.int .i64 g.gauge) ∧ W.drew.cell? ⟨w.heap.size, 1, none⟩ = some (.int .i64 g.seq) ∧ W.drew.cell? ⟨w.heap.size, 2, none⟩ = some (.int .i64 g.clock) ∧ W.drew.cell? ⟨w.heap.size, 3, none⟩ = some (.int .i64 g.value) ∧ W.drew.cell? ⟨w.heap.size, 4, none⟩ = some (.string g.tag) ∧ w.heap.size < W.drew.heap.size ∧ Below w.heap.size w W.drew) := Lib.hid ⟨HS1.out.1, HS1.out.2.1, HS1.out.2.2.1, HS1.out.2.2.2.1, HS1.out.2.2.2.2.1, HS1.out.2.2.2.2.2.1, HS1.out.2.2.2.2.2.2.drew⟩
  clear h0 hB0 hG hM
  by_cases hF : Formed g
  · have HW : Hid (∀ w', Calls Tryd.prog 29 #[.agg #[.int .i64 g.gauge, .int .i64 g.seq, .int .i64 g.clock, .int .i64 g.value, .string g.tag]] w' fun e w'' => e = .returned (.bool true) ∧ Below w'.heap.size w' w'') := Lib.hid (fun w' => by rw [← decide_eq_true hF]; exact wellFormed_any g _ hO)
    have HE : Hid ((g.tag.toList == T.toList) = genB s g) := Lib.hid (by
      unfold genB
      rw [← hT]
      by_cases h : g.tag = T
      · rw [decide_eq_true ⟨hF, h⟩, h]; simp
      · rw [decide_eq_false (fun e => h e.2), beq_eq_false_iff_ne]
        exact fun e => h (str_eq' e))
    clear hT hF hO
    go_enter Tryd.func14, Tryd.ntmps14
    go_upto_region 1 with fail
    rw [← hW]
    clear hW HS1
    go_region_held3 (fun w' => w'.cell? ⟨w.heap.size, 0, none⟩ = some (.int .i64 g.gauge) ∧ w'.cell? ⟨w.heap.size, 1, none⟩ = some (.int .i64 g.seq) ∧ w'.cell? ⟨w.heap.size, 2, none⟩ = some (.int .i64 g.clock) ∧ w'.cell? ⟨w.heap.size, 3, none⟩ = some (.int .i64 g.value) ∧ w'.cell? ⟨w.heap.size, 4, none⟩ = some (.string g.tag) ∧ w.heap.size < w'.heap.size ∧ Below w.heap.size w w') (first | assumption | exact HS0.out | exact s5_step (by assumption) hb) ((first | (go_at_call 29; refine (HW.out _).mono ?_; rintro e w' ⟨rfl, hb⟩) | (go_at_call 35; refine (HT.out _ (HG.out.below (show _ ∧ _ ∧ _ ∧ _ ∧ _ ∧ _ ∧ Below w.heap.size w _ by assumption).2.2.2.2.2.2 HG.out.size) (HM.out.up (show _ ∧ _ ∧ _ ∧ _ ∧ _ ∧ _ ∧ Below w.heap.size w _ by assumption).2.2.2.2.2.2)).mono ?_; rintro e w' ⟨rfl, hb⟩)))
    all_goals (have HBf : Hid (Below w.heap.size w _) := Lib.hid (show _ ∧ _ ∧ _ ∧ _ ∧ _ ∧ _ ∧ Below w.heap.size w _ by assumption).2.2.2.2.2.2; go_wp2_with fail; go_ret; exact ⟨by rw [← HE.out]; rfl, HBf.out⟩)
  · have HW : Hid (∀ w', Calls Tryd.prog 29 #[.agg #[.int .i64 g.gauge, .int .i64 g.seq, .int .i64 g.clock, .int .i64 g.value, .string g.tag]] w' fun e w'' => e = .returned (.bool false) ∧ Below w'.heap.size w' w'') := Lib.hid (fun w' => by rw [← decide_eq_false hF]; exact wellFormed_any g _ hO)
    have HE : Hid (genB s g = false) := Lib.hid (decide_eq_false (fun e => hF e.1))
    clear hT hF hO
    go_enter Tryd.func14, Tryd.ntmps14
    go_upto_region 1 with fail
    rw [← hW]
    clear hW
    obtain ⟨d0, d1, d2, d3, d4, d5, d6⟩ := HS1.out
    clear d6
    first | (go_region_with ((first | (go_at_call 29; refine (HW.out _).mono ?_; rintro e w' ⟨rfl, hb⟩; have HE11 := Lib.hid (s5_step HS0.out hb).2.2.2.2.2.2; clear hb)))) | fail
    all_goals go_wp2_with fail
    all_goals go_ret
    all_goals exact ⟨by rw [HE.out]; rfl, HE11.out⟩
end Go.Proofs.YtmlfkhpmgjcliaaDoor
