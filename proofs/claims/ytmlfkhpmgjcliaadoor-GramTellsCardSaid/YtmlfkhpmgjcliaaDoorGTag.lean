/- Package gram: tag, Seal, Genuine. -/
import Derived.Test.YtmlfkhpmgjcliaaDoorGCore
namespace Go.Proofs.YtmlfkhpmgjcliaaDoor
open Go.RowKit
theorem bytes_cat (a b : List UInt8) : (⟨a.toArray⟩ : ByteArray) ++ ⟨b.toArray⟩ = ⟨(a ++ b).toArray⟩ := by
  apply ByteArray.ext
  apply Array.ext'
  simp
/-- what is digested for a tag -/
def tagIn (secret : ByteArray) (g : GV) : List UInt8 := textL [103, 114, 97, 109] ++ textL secret.data.toList ++ coreL g
def tagL (secret : ByteArray) (g : GV) : List UInt8 := (sumB (tagIn secret g)).take 8
theorem tagL_len (secret : ByteArray) (g : GV) : (tagL secret g).length = 8 := by
  unfold tagL
  rw [List.length_take, sumB_len]
  rfl
theorem s5_step {w cur w' : World} {nb : Nat} {b0 b1 b2 b3 b4 : Value} (h : cur.cell? ⟨nb, 0, none⟩ = some b0 ∧ cur.cell? ⟨nb, 1, none⟩ = some b1 ∧ cur.cell? ⟨nb, 2, none⟩ = some b2 ∧ cur.cell? ⟨nb, 3, none⟩ = some b3 ∧ cur.cell? ⟨nb, 4, none⟩ = some b4 ∧ nb < cur.heap.size ∧ Below w.heap.size w cur)
    (hb : Below cur.heap.size cur w') : w'.cell? ⟨nb, 0, none⟩ = some b0 ∧ w'.cell? ⟨nb, 1, none⟩ = some b1 ∧ w'.cell? ⟨nb, 2, none⟩ = some b2 ∧ w'.cell? ⟨nb, 3, none⟩ = some b3 ∧ w'.cell? ⟨nb, 4, none⟩ = some b4 ∧ nb < w'.heap.size ∧ Below w.heap.size w w' := by
  obtain ⟨h0, h1, h2, h3, h4, h5, h6⟩ := h
  exact ⟨(hb.cell (p := ⟨nb, 0, none⟩) h5).trans h0, (hb.cell (p := ⟨nb, 1, none⟩) h5).trans h1, (hb.cell (p := ⟨nb, 2, none⟩) h5).trans h2, (hb.cell (p := ⟨nb, 3, none⟩) h5).trans h3, (hb.cell (p := ⟨nb, 4, none⟩) h5).trans h4, Nat.lt_of_lt_of_le h5 hb.size, h6.trans (hb.mono h6.size)⟩
theorem gram_text : textL ({ data := #[103, 114, 97, 109] } : ByteArray).data.toList = textL [103, 114, 97, 109] := rfl
theorem text_len (s : ByteArray) : ((textL s.data.toList).length : Int) ≤ 2 * s.size + 2 := by
  have h := textL_len s.data.toList
  have h2 : s.data.toList.length = s.size := by simp
  omega
set_option maxRecDepth 100000 in
set_option maxHeartbeats 4000000 in
theorem tag_any (s : ByteArray) (g : GV) (w : World) (hs : s.size ≤ 300) (hO : GOk g) (hG : Glob w) (hM : MLen w) :
    Calls Tryd.prog 35 #[.string s, .agg #[.int .i64 g.gauge, .int .i64 g.seq, .int .i64 g.clock, .int .i64 g.value, .string g.tag]] w
      fun e w' => e = .returned (.string ⟨(tagL s g).toArray⟩) ∧ Below w.heap.size w w' := by
  have HG := Lib.hid hG
  have HM := Lib.hid hM
  have hl1 := text_len s
  have hl2 := coreL_len hO
  have hl3 : (textL ({ data := #[103, 114, 97, 109] } : ByteArray).data.toList).length = 6 := by decide
  obtain ⟨A, hA⟩ : ∃ A, A = (⟨(textL ({ data := #[103, 114, 97, 109] } : ByteArray).data.toList).toArray⟩ : ByteArray) := ⟨_, rfl⟩
  obtain ⟨B, hB⟩ : ∃ B, B = (⟨(textL s.data.toList).toArray⟩ : ByteArray) := ⟨_, rfl⟩
  obtain ⟨C, hC⟩ : ∃ C, C = (⟨(coreL g).toArray⟩ : ByteArray) := ⟨_, rfl⟩
  obtain ⟨D, hD⟩ : ∃ D, D = (⟨(sumB (tagIn s g)).toArray⟩ : ByteArray) := ⟨_, rfl⟩
  have hAs : A.size = 6 := by rw [hA]; exact hl3
  have hBs : B.size ≤ 1000 := by
    rw [hB]
    show (textL s.data.toList).length ≤ 1000
    omega
  have hCs : C.size ≤ 36 := by rw [hC]; exact hl2
  have hDs : D.size = 32 := by rw [hD]; exact sumB_len _
  have hABC : (A ++ B ++ C).data.toList = tagIn s g := by
    rw [hA, hB, hC, bytes_cat, bytes_cat]
    rfl
  have HA : Hid (∀ w', MLen w' → Calls Tryd.prog 21 #[.string { data := #[103, 114, 97, 109] }] w' fun e w'' => e = .returned (.string A) ∧ Below w'.heap.size w' w'') := Lib.hid (fun w' h => by rw [hA]; exact text_any _ _ (by decide) h)
  have HB : Hid (∀ w', MLen w' → Calls Tryd.prog 21 #[.string s] w' fun e w'' => e = .returned (.string B) ∧ Below w'.heap.size w' w'') := Lib.hid (fun w' h => by rw [hB]; exact text_any _ _ (by omega) h)
  have HC : Hid (∀ w', Calls Tryd.prog 37 #[.agg #[.int .i64 g.gauge, .int .i64 g.seq, .int .i64 g.clock, .int .i64 g.value, .string g.tag]] w' fun e w'' => e = .returned (.string C) ∧ Below w'.heap.size w' w'') := Lib.hid (fun w' => by rw [hC]; exact core_any g _ hO)
  have HD : Hid (∀ w', Glob w' → Calls Tryd.prog 20 #[.string (A ++ B ++ C)] w' fun e w'' => e = .returned (.string D) ∧ Below w'.heap.size w' w'') := Lib.hid (fun w' h => by
    rw [hD, ← hABC]
    exact sum_any _ _ h (by rw [ByteArray.size_append, ByteArray.size_append]; omega))
  have HE : Hid (D.extract 0 8 = ⟨(tagL s g).toArray⟩) := Lib.hid (by
    rw [hD]
    apply ByteArray.ext
    apply Array.ext'
    simp [tagL])
  clear hO hG hM hA hB hC hD hABC hl1 hl2 hl3
  obtain ⟨W, hW⟩ : ∃ W, W = w.alloc (.cells #[.int .i64 g.gauge, .int .i64 g.seq, .int .i64 g.clock, .int .i64 g.value, .string g.tag] 23) := ⟨_, rfl⟩
  have HS0 : Hid (W.drew.cell? ⟨w.heap.size, 0, none⟩ = some (.int .i64 g.gauge) ∧ W.drew.cell? ⟨w.heap.size, 1, none⟩ = some (.int .i64 g.seq) ∧ W.drew.cell? ⟨w.heap.size, 2, none⟩ = some (.int .i64 g.clock) ∧ W.drew.cell? ⟨w.heap.size, 3, none⟩ = some (.int .i64 g.value) ∧ W.drew.cell? ⟨w.heap.size, 4, none⟩ = some (.string g.tag) ∧ w.heap.size < W.drew.heap.size ∧ Below w.heap.size w W.drew) := Lib.hid (by
    have hr : W.heap[w.heap.size]? = some (.cells #[.int .i64 g.gauge, .int .i64 g.seq, .int .i64 g.clock, .int .i64 g.value, .string g.tag] 23 (0, 0)) := by rw [hW]; exact heap_alloc_new _ _
    refine ⟨?_, ?_, ?_, ?_, ?_, ?_, ?_⟩
    · exact (cell_of_row _ _ _ _ _ _ hr).trans rfl
    · exact (cell_of_row _ _ _ _ _ _ hr).trans rfl
    · exact (cell_of_row _ _ _ _ _ _ hr).trans rfl
    · exact (cell_of_row _ _ _ _ _ _ hr).trans rfl
    · exact (cell_of_row _ _ _ _ _ _ hr).trans rfl
    · exact blk_lt hr
    · rw [hW]; exact ((Below.refl _ _).alloc (Nat.le_refl _) _).drew)
  have hn1 : ¬ 9223372036854775807 < 6 + B.size := by omega
  have hn2 : ¬ 9223372036854775807 < 6 + B.size + C.size := by omega
  go_enter Tryd.func35, Tryd.ntmps35
  go_upto_region 1 with fail
  rw [← hW]
  clear hW
  go_region_held3 (fun w' => w'.cell? ⟨w.heap.size, 0, none⟩ = some (.int .i64 g.gauge) ∧ w'.cell? ⟨w.heap.size, 1, none⟩ = some (.int .i64 g.seq) ∧ w'.cell? ⟨w.heap.size, 2, none⟩ = some (.int .i64 g.clock) ∧ w'.cell? ⟨w.heap.size, 3, none⟩ = some (.int .i64 g.value) ∧ w'.cell? ⟨w.heap.size, 4, none⟩ = some (.string g.tag) ∧ w.heap.size < w'.heap.size ∧ Below w.heap.size w w') (first | assumption | exact HS0.out | exact s5_step (by assumption) hb) ((first | (go_at_call 21; refine (HA.out _ (HM.out.up (show _ ∧ _ ∧ _ ∧ _ ∧ _ ∧ _ ∧ Below w.heap.size w _ by assumption).2.2.2.2.2.2)).mono ?_; rintro e w' ⟨rfl, hb⟩) | (go_at_call 21; refine (HB.out _ (HM.out.up (show _ ∧ _ ∧ _ ∧ _ ∧ _ ∧ _ ∧ Below w.heap.size w _ by assumption).2.2.2.2.2.2)).mono ?_; rintro e w' ⟨rfl, hb⟩) | (go_at_call 37; refine (HC.out _).mono ?_; rintro e w' ⟨rfl, hb⟩) | (go_at_call 20; refine (HD.out _ (HG.out.below (show _ ∧ _ ∧ _ ∧ _ ∧ _ ∧ _ ∧ Below w.heap.size w _ by assumption).2.2.2.2.2.2 HG.out.size)).mono ?_; rintro e w' ⟨rfl, hb⟩)))
  all_goals (have HBf : Hid (Below w.heap.size w _) := Lib.hid (show _ ∧ _ ∧ _ ∧ _ ∧ _ ∧ _ ∧ Below w.heap.size w _ by assumption).2.2.2.2.2.2; go_wp2_with fail; go_ret; exact ⟨by rw [← HE.out]; rfl, HBf.out⟩)
end Go.Proofs.YtmlfkhpmgjcliaaDoor
