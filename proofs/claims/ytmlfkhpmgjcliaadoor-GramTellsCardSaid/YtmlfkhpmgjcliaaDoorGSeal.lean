/- Package gram: Seal, Genuine, Right, Bytes. -/
import Derived.Test.YtmlfkhpmgjcliaaDoorGTag
import Derived.Test.YtmlfkhpmgjcliaaDoorGForm
namespace Go.Proofs.YtmlfkhpmgjcliaaDoor
open Go.RowKit
theorem two_rows' {w : World} {A B : Obj} : ((w.alloc A).alloc B).heap[w.heap.size]? = some A ∧ ((w.alloc A).alloc B).heap[w.heap.size + 1]? = some B := by
  refine ⟨?_, ?_⟩
  · rw [heap_alloc_old _ _ (by simp), heap_alloc_new]
  · have h : w.heap.size + 1 = (w.alloc A).heap.size := by simp
    rw [h, heap_alloc_new]
set_option maxRecDepth 100000 in
set_option maxHeartbeats 4000000 in
theorem seal_any (s : ByteArray) (g : GV) (w : World) (hs : s.size ≤ 300) (hO : GOk g) (hG : Glob w) (hM : MLen w) :
    Calls Tryd.prog 12 #[.string s, .agg #[.int .i64 g.gauge, .int .i64 g.seq, .int .i64 g.clock, .int .i64 g.value, .string g.tag]] w
      fun e w' => e = .returned (.agg #[.int .i64 g.gauge, .int .i64 g.seq, .int .i64 g.clock, .int .i64 g.value, .string ⟨(tagL s g).toArray⟩]) ∧ Below w.heap.size w w' := by
  obtain ⟨fs, hu⟩ := undG
  have HO := Lib.hid hO
  have HG := Lib.hid hG
  have HM := Lib.hid hM
  clear hO hG hM
  go_enter Tryd.func12, Tryd.ntmps12
  go_wp2_with fail
  have hB0 : Below w.heap.size w ((w.alloc (.cells #[.int .i64 g.gauge, .int .i64 g.seq, .int .i64 g.clock, .int .i64 g.value, .string g.tag] 23)).alloc (.cells #[.int .i64 0, .int .i64 0, .int .i64 0, .int .i64 0, .string ⟨#[]⟩] 23)) := ((Below.refl _ _).alloc (Nat.le_refl _) _).alloc (by simp) _
  have h0 := (two_rows' (w := w) (A := .cells #[.int .i64 g.gauge, .int .i64 g.seq, .int .i64 g.clock, .int .i64 g.value, .string g.tag] 23) (B := .cells #[.int .i64 0, .int .i64 0, .int .i64 0, .int .i64 0, .string ⟨#[]⟩] 23))
  refine (tag_any s g _ hs HO.out (HG.out.below hB0 HG.out.size) (HM.out.up hB0)).mono ?_
  rintro e w1 ⟨rfl, hb⟩
  have H0 := Lib.hid (blk_below h0.1 hb (by simp only [World.size_alloc]; omega))
  have H1 := Lib.hid (blk_below h0.2 hb (by simp only [World.size_alloc]; omega))
  have HB := Lib.hid (hB0.trans (hb.mono hB0.size))
  clear h0 hB0 hb
  generalize hTT : (⟨(tagL s g).toArray⟩ : ByteArray) = T at *
  have HTT := Lib.hid hTT
  clear hTT
  have c4 : w1.cell? ⟨w.heap.size, 4, none⟩ = some (.string g.tag) := (cell_of_row _ _ _ _ _ _ H0.out).trans rfl
  have f4 : w1.frozen? ⟨w.heap.size, 4, none⟩ = false := frozen_of_row _ _ _ _ _ H0.out
  go_upto_region 2 with fail
  have H2 : Hid ((w1.setCell ⟨w.heap.size, 4, none⟩ (.string T)).heap[w.heap.size]? = some (.cells #[.int .i64 g.gauge, .int .i64 g.seq, .int .i64 g.clock, .int .i64 g.value, .string T] 23 (0, 0))) := Lib.hid ((heap_setCell_same _ _ _ _ _ _ H0.out).trans rfl)
  have H3 : Hid ((w1.setCell ⟨w.heap.size, 4, none⟩ (.string T)).heap[w.heap.size + 1]? = some (.cells #[.int .i64 0, .int .i64 0, .int .i64 0, .int .i64 0, .string ⟨#[]⟩] 23 (0, 0))) := Lib.hid (by
    rw [heap_setCell_other _ _ _ _ (by show w.heap.size + 1 ≠ w.heap.size; omega)]; exact H1.out)
  have HB2 : Hid (Below w.heap.size w (w1.setCell ⟨w.heap.size, 4, none⟩ (.string T))) := Lib.hid (HB.out.setCell (Nat.le_refl _) _)
  generalize w1.setCell ⟨w.heap.size, 4, none⟩ (.string T) = W2 at *
  clear c4 f4 H0 H1 HB
  go_wp2_with (first | (refine wpList_load_row rfl 23 _ rfl _ rfl 23 _ _ _ H2.out hu rfl infoG ?_) | (refine wpList_store_row rfl 23 _ _ rfl (w.heap.size + 1) #[.int .i64 g.gauge, .int .i64 g.seq, .int .i64 g.clock, .int .i64 g.value, .string T] rfl rfl 23 _ H3.out infoG rfl (by simp [Value.oneCell']) ?_))
  refine bodyPost_ret (v := .agg #[.int .i64 g.gauge, .int .i64 g.seq, .int .i64 g.clock, .int .i64 g.value, .string T]) ?_ rfl ⟨by rw [← HTT.out], ?_⟩
  · exact results_cell_row rfl _ _ _ 23 _ (0, 0) _ rfl (setRow_heap _ _ _ _ _ _ H3.out) hu rfl infoG
  · exact below_setRow HB2.out (Nat.le_succ _) _
set_option maxRecDepth 100000 in
set_option maxHeartbeats 4000000 in
theorem bytes_any (g : GV) (w : World) (hO : GOk g) (hM : MLen w) (_ht : g.tag.size ≤ 300) :
    Calls Tryd.prog 18 #[.agg #[.int .i64 g.gauge, .int .i64 g.seq, .int .i64 g.clock, .int .i64 g.value, .string g.tag]] w
      fun e w' => e = .returned (.string ⟨(gramL g).toArray⟩) ∧ Below w.heap.size w w' := by
  have HO := Lib.hid hO
  have HM := Lib.hid hM
  obtain ⟨B, hB⟩ : ∃ B, B = (⟨(textL g.tag.data.toList).toArray⟩ : ByteArray) := ⟨_, rfl⟩
  obtain ⟨C, hC⟩ : ∃ C, C = (⟨(coreL g).toArray⟩ : ByteArray) := ⟨_, rfl⟩
  have hl1 := text_len g.tag
  have hl2 := coreL_len hO
  have hBs : B.size ≤ 1000 := by
    rw [hB]
    show (textL g.tag.data.toList).length ≤ 1000
    omega
  have hCs : C.size ≤ 36 := by rw [hC]; exact hl2
  have HB : Hid (∀ w', MLen w' → Calls Tryd.prog 21 #[.string g.tag] w' fun e w'' => e = .returned (.string B) ∧ Below w'.heap.size w' w'') := Lib.hid (fun w' h => by rw [hB]; exact text_any _ _ (by omega) h)
  have HC : Hid (∀ w', Calls Tryd.prog 37 #[.agg #[.int .i64 g.gauge, .int .i64 g.seq, .int .i64 g.clock, .int .i64 g.value, .string g.tag]] w' fun e w'' => e = .returned (.string C) ∧ Below w'.heap.size w' w'') := Lib.hid (fun w' => by rw [hC]; exact core_any g _ hO)
  have HBC : Hid (C ++ B = ⟨(coreL g ++ textC g.tag).toArray⟩) := Lib.hid (by rw [hB, hC, bytes_cat]; rfl)
  have hn1 : ¬ 9223372036854775807 < C.size + B.size := by omega
  clear hO hM hB hC hl1 hl2
  go_enter Tryd.func18, Tryd.ntmps18
  go_wp2_with fail
  have hB0 : Below w.heap.size w (w.alloc (.cells #[.int .i64 g.gauge, .int .i64 g.seq, .int .i64 g.clock, .int .i64 g.value, .string g.tag] 23)) := (Below.refl _ _).alloc (Nat.le_refl _) _
  have h0 := heap_alloc_new w (.cells #[.int .i64 g.gauge, .int .i64 g.seq, .int .i64 g.clock, .int .i64 g.value, .string g.tag] 23)
  refine (wellFormed_any g _ HO.out).mono ?_
  rintro e w1 ⟨rfl, hb⟩
  have H0 := Lib.hid (blk_below h0 hb (by simp only [World.size_alloc]; omega))
  have HBw := Lib.hid (hB0.trans (hb.mono hB0.size))
  clear h0 hB0 hb
  by_cases hF : Formed g
  · have HG : Hid (gramL g = coreL g ++ textC g.tag) := Lib.hid (gramL_formed hF)
    rw [decide_eq_true hF]
    clear hF
    go_wp2_with fail
    have HS0 : Hid (w1.drew.cell? ⟨w.heap.size, 0, none⟩ = some (.int .i64 g.gauge) ∧ w1.drew.cell? ⟨w.heap.size, 1, none⟩ = some (.int .i64 g.seq) ∧ w1.drew.cell? ⟨w.heap.size, 2, none⟩ = some (.int .i64 g.clock) ∧ w1.drew.cell? ⟨w.heap.size, 3, none⟩ = some (.int .i64 g.value) ∧ w1.drew.cell? ⟨w.heap.size, 4, none⟩ = some (.string g.tag) ∧ w.heap.size < w1.drew.heap.size ∧ Below w.heap.size w w1.drew) := Lib.hid (by
      refine ⟨?_, ?_, ?_, ?_, ?_, ?_, ?_⟩
      · exact (cell_of_row _ _ _ _ _ _ H0.out).trans rfl
      · exact (cell_of_row _ _ _ _ _ _ H0.out).trans rfl
      · exact (cell_of_row _ _ _ _ _ _ H0.out).trans rfl
      · exact (cell_of_row _ _ _ _ _ _ H0.out).trans rfl
      · exact (cell_of_row _ _ _ _ _ _ H0.out).trans rfl
      · exact blk_lt H0.out
      · exact HBw.out.drew)
    clear H0 HBw
    go_region_held3 (fun w' => w'.cell? ⟨w.heap.size, 0, none⟩ = some (.int .i64 g.gauge) ∧ w'.cell? ⟨w.heap.size, 1, none⟩ = some (.int .i64 g.seq) ∧ w'.cell? ⟨w.heap.size, 2, none⟩ = some (.int .i64 g.clock) ∧ w'.cell? ⟨w.heap.size, 3, none⟩ = some (.int .i64 g.value) ∧ w'.cell? ⟨w.heap.size, 4, none⟩ = some (.string g.tag) ∧ w.heap.size < w'.heap.size ∧ Below w.heap.size w w') (first | assumption | exact HS0.out | exact s5_step (by assumption) hb) ((first | (go_at_call 21; refine (HB.out _ (HM.out.up (show _ ∧ _ ∧ _ ∧ _ ∧ _ ∧ _ ∧ Below w.heap.size w _ by assumption).2.2.2.2.2.2)).mono ?_; rintro e w' ⟨rfl, hb⟩) | (go_at_call 37; refine (HC.out _).mono ?_; rintro e w' ⟨rfl, hb⟩)))
    all_goals (have HBf : Hid (Below w.heap.size w _) := Lib.hid (show _ ∧ _ ∧ _ ∧ _ ∧ _ ∧ _ ∧ Below w.heap.size w _ by assumption).2.2.2.2.2.2; go_wp2_with fail; go_ret; exact ⟨by rw [HG.out, ← HBC.out]; rfl, HBf.out⟩)
  · have HG : Hid (gramL g = []) := Lib.hid (gramL_nil.2 hF)
    rw [decide_eq_false hF]
    clear hF
    go_wp2_with fail
    go_ret
    exact ⟨by rw [HG.out]; rfl, HBw.out⟩
end Go.Proofs.YtmlfkhpmgjcliaaDoor
