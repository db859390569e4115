/- The reference of package gram: Formed, core, Tag, Seal, Genuine, Bytes. -/
import Derived.Test.YtmlfkhpmgjcliaaDoorGSeals
import Derived.Test.YtmlfkhpmgjcliaaDoorRefH
import Derived.Test.YtmlfkhpmgjcliaaDoorGWRef
namespace Go.Proofs.YtmlfkhpmgjcliaaDoor
open Go.RowKit
set_option maxRecDepth 100000 in
set_option maxHeartbeats 4000000 in
theorem rformed_any (g : GV) (w : World) :
    Calls Tryd.prog 34 #[.agg #[.int .i64 g.gauge, .int .i64 g.seq, .int .i64 g.clock, .int .i64 g.value, .string g.tag]] w fun e w' => e = .returned (.bool (decide (Formed g))) ∧ Below w.heap.size w w' := by
  have HB0 := Lib.hid ((Below.refl w.heap.size w).alloc (Nat.le_refl _) (.cells #[.int .i64 g.gauge, .int .i64 g.seq, .int .i64 g.clock, .int .i64 g.value, .string g.tag] 23))
  have h0 := heap_alloc_new w (.cells #[.int .i64 g.gauge, .int .i64 g.seq, .int .i64 g.clock, .int .i64 g.value, .string g.tag] 23)
  go_enter Tryd.func34, Tryd.ntmps34
  go_upto_region 1 with fail
  generalize (w.alloc (.cells #[.int .i64 g.gauge, .int .i64 g.seq, .int .i64 g.clock, .int .i64 g.value, .string g.tag] 23)) = w0 at *
  obtain ⟨x0, x1, x2, x3, x4⟩ := row5 h0
  clear h0
  by_cases f0 : 0 ≤ g.gauge
  · by_cases f1 : g.gauge < 128
    · by_cases f2 : 0 ≤ g.seq
      · by_cases f3 : g.seq ≤ 1099511627776
        · by_cases f4 : 0 ≤ g.clock
          · by_cases f5 : g.clock ≤ 1006633019
            · by_cases f6 : -1099511627776 ≤ g.value
              · by_cases f7 : g.value ≤ 1099511627776
                · by_cases f8 : g.tag.size = 8
                  · have t9 : ((g.tag.size : Int) == 8) = true := by rw [beq_iff_eq]; omega
                    go_wp2_with fail
                    go_ret
                    exact ⟨by rw [decide_eq_true (show Formed g from by unfold Formed; omega)]; rfl, HB0.out⟩
                  · have t9 : ((g.tag.size : Int) == 8) = false := by rw [beq_eq_false_iff_ne]; omega
                    go_wp2_with fail
                    go_ret
                    exact ⟨by rw [decide_eq_false (show ¬ Formed g from by unfold Formed; omega)]; rfl, HB0.out⟩
                · go_wp2_with fail
                  go_ret
                  exact ⟨by rw [decide_eq_false (show ¬ Formed g from by unfold Formed; omega)]; rfl, HB0.out⟩
              · go_wp2_with fail
                go_ret
                exact ⟨by rw [decide_eq_false (show ¬ Formed g from by unfold Formed; omega)]; rfl, HB0.out⟩
            · go_wp2_with fail
              go_ret
              exact ⟨by rw [decide_eq_false (show ¬ Formed g from by unfold Formed; omega)]; rfl, HB0.out⟩
          · go_wp2_with fail
            go_ret
            exact ⟨by rw [decide_eq_false (show ¬ Formed g from by unfold Formed; omega)]; rfl, HB0.out⟩
        · go_wp2_with fail
          go_ret
          exact ⟨by rw [decide_eq_false (show ¬ Formed g from by unfold Formed; omega)]; rfl, HB0.out⟩
      · go_wp2_with fail
        go_ret
        exact ⟨by rw [decide_eq_false (show ¬ Formed g from by unfold Formed; omega)]; rfl, HB0.out⟩
    · go_wp2_with fail
      go_ret
      exact ⟨by rw [decide_eq_false (show ¬ Formed g from by unfold Formed; omega)]; rfl, HB0.out⟩
  · go_wp2_with fail
    go_ret
    exact ⟨by rw [decide_eq_false (show ¬ Formed g from by unfold Formed; omega)]; rfl, HB0.out⟩
set_option maxRecDepth 100000 in
set_option maxHeartbeats 4000000 in
theorem rcore_any (g : GV) (w : World) (hO : GOk g) :
    Calls Tryd.prog 38 #[.agg #[.int .i64 g.gauge, .int .i64 g.seq, .int .i64 g.clock, .int .i64 g.value, .string g.tag]] w fun e w' => e = .returned (.string ⟨(coreL g).toArray⟩) ∧ Below w.heap.size w w' := by
  have HO := Lib.hid hO
  obtain ⟨J, hJ⟩ : ∃ J : Int → ByteArray, ∀ n, J n = ⟨(intL n).toArray⟩ := ⟨_, fun _ => rfl⟩
  have hs0 : (J g.gauge).size ≤ 9 := by rw [hJ]; exact (intL_len hO.1).2
  have hs1 : (J g.seq).size ≤ 9 := by rw [hJ]; exact (intL_len hO.2.1).2
  have hs2 : (J g.clock).size ≤ 9 := by rw [hJ]; exact (intL_len hO.2.2.1).2
  have hs3 : (J g.value).size ≤ 9 := by rw [hJ]; exact (intL_len hO.2.2.2).2
  have hn1 : ¬ 9223372036854775807 < (J g.gauge).size + (J g.seq).size := by omega
  have hn2 : ¬ 9223372036854775807 < (J g.gauge).size + (J g.seq).size + (J g.clock).size := by omega
  have hn3 : ¬ 9223372036854775807 < (J g.gauge).size + (J g.seq).size + (J g.clock).size + (J g.value).size := by omega
  have HC : Hid (J g.gauge ++ J g.seq ++ J g.clock ++ J g.value = ⟨(coreL g).toArray⟩) := Lib.hid (by
    rw [hJ, hJ, hJ, hJ, bytes_cat, bytes_cat, bytes_cat]
    unfold coreL
    simp only [List.append_assoc])
  have HJ : Hid (∀ n, I64 n → ∀ w', Calls Tryd.prog 57 #[.int .i64 n] w' fun e w'' => e = .returned (.string (J n)) ∧ Below w'.heap.size w' w'') := Lib.hid (fun n h w' => by rw [hJ]; exact rint_any n _ h)
  clear hO hJ hs0 hs1 hs2 hs3
  obtain ⟨W, hW⟩ : ∃ W, W = w.alloc (.cells #[.int .i64 g.gauge, .int .i64 g.seq, .int .i64 g.clock, .int .i64 g.value, .string g.tag] 23) := ⟨_, rfl⟩
  have HS0 : Hid (W.drew.cell? ⟨w.heap.size, 0, none⟩ = some (.int .i64 g.gauge) ∧ W.drew.cell? ⟨w.heap.size, 1, none⟩ = some (.int .i64 g.seq) ∧ W.drew.cell? ⟨w.heap.size, 2, none⟩ = some (.int .i64 g.clock) ∧ W.drew.cell? ⟨w.heap.size, 3, none⟩ = some (.int .i64 g.value) ∧ W.drew.cell? ⟨w.heap.size, 4, none⟩ = some (.string g.tag) ∧ w.heap.size < W.drew.heap.size ∧ Below w.heap.size w W.drew) := Lib.hid (by
    have hr : W.heap[w.heap.size]? = some (.cells #[.int .i64 g.gauge, .int .i64 g.seq, .int .i64 g.clock, .int .i64 g.value, .string g.tag] 23 (0, 0)) := by rw [hW]; exact heap_alloc_new _ _
    obtain ⟨h0, h1, h2, h3, h4, h5⟩ := c5_row hr
    exact ⟨h0, h1, h2, h3, h4, h5, by rw [hW]; exact ((Below.refl _ _).alloc (Nat.le_refl _) _).drew⟩)
  go_enter Tryd.func38, Tryd.ntmps38
  go_upto_region 1 with fail
  rw [← hW]
  clear hW
  go_region_held3 (fun w' => w'.cell? ⟨w.heap.size, 0, none⟩ = some (.int .i64 g.gauge) ∧ w'.cell? ⟨w.heap.size, 1, none⟩ = some (.int .i64 g.seq) ∧ w'.cell? ⟨w.heap.size, 2, none⟩ = some (.int .i64 g.clock) ∧ w'.cell? ⟨w.heap.size, 3, none⟩ = some (.int .i64 g.value) ∧ w'.cell? ⟨w.heap.size, 4, none⟩ = some (.string g.tag) ∧ w.heap.size < w'.heap.size ∧ Below w.heap.size w w') (first | assumption | exact HS0.out | exact s5_step (by assumption) hb) ((first | (go_at_call 57; refine (HJ.out _ (by first | exact HO.out.1 | exact HO.out.2.1 | exact HO.out.2.2.1 | exact HO.out.2.2.2) _).mono ?_; rintro e w' ⟨rfl, hb⟩)))
  all_goals (have HBf : Hid (Below w.heap.size w _) := Lib.hid (show _ ∧ _ ∧ _ ∧ _ ∧ _ ∧ _ ∧ Below w.heap.size w _ by assumption).2.2.2.2.2.2; go_wp2_with fail; go_ret; exact ⟨by rw [← HC.out]; rfl, HBf.out⟩)
set_option maxRecDepth 100000 in
set_option maxHeartbeats 4000000 in
theorem rtag_any (s : ByteArray) (g : GV) (w : World) (hs : s.size ≤ 300) (hO : GOk g) :
    Calls Tryd.prog 36 #[.string s, .agg #[.int .i64 g.gauge, .int .i64 g.seq, .int .i64 g.clock, .int .i64 g.value, .string g.tag]] w fun e w' => e = .returned (.string ⟨(tagL s g).toArray⟩) ∧ Below w.heap.size w w' := by
  have hl1 := text_len s
  have hl2 := coreL_len hO
  have hl3 : (textL ({ data := #[103, 114, 97, 109] } : ByteArray).data.toList).length = 6 := by decide
  obtain ⟨K, hK⟩ : ∃ K : ByteArray → ByteArray, ∀ t, K t = ⟨(textL t.data.toList).toArray⟩ := ⟨_, fun _ => rfl⟩
  obtain ⟨C, hC⟩ : ∃ C, C = (⟨(coreL g).toArray⟩ : ByteArray) := ⟨_, rfl⟩
  obtain ⟨D, hD⟩ : ∃ D, D = (⟨(sumB (tagIn s g)).toArray⟩ : ByteArray) := ⟨_, rfl⟩
  have hAs : (K { data := #[103, 114, 97, 109] }).size = 6 := by rw [hK]; exact hl3
  have hBs : (K s).size ≤ 1000 := by
    rw [hK]
    show (textL s.data.toList).length ≤ 1000
    omega
  have hCs : C.size ≤ 36 := by rw [hC]; exact hl2
  have hDs : D.size = 32 := by rw [hD]; exact sumB_len _
  have hABC : (K { data := #[103, 114, 97, 109] } ++ K s ++ C).data.toList = tagIn s g := by
    rw [hK, hK, hC, bytes_cat, bytes_cat]
    rfl
  have HK : Hid (∀ t, t.size ≤ 300 → ∀ w', Calls Tryd.prog 39 #[.string t] w' fun e w'' => e = .returned (.string (K t)) ∧ Below w'.heap.size w' w'') := Lib.hid (fun t h0 w' => by rw [hK]; exact rtext_any _ _ (by omega))
  have HC : Hid (∀ w', Calls Tryd.prog 38 #[.agg #[.int .i64 g.gauge, .int .i64 g.seq, .int .i64 g.clock, .int .i64 g.value, .string g.tag]] w' fun e w'' => e = .returned (.string C) ∧ Below w'.heap.size w' w'') := Lib.hid (fun w' => by rw [hC]; exact rcore_any g _ hO)
  have HD : Hid (∀ w', Calls Tryd.prog 58 #[.string (K { data := #[103, 114, 97, 109] } ++ K s ++ C)] w' fun e w'' => e = .returned (.string D) ∧ Below w'.heap.size w' w'') := Lib.hid (fun w' => by
    rw [hD, ← hABC]
    exact rsum_any _ _ (by rw [ByteArray.size_append, ByteArray.size_append]; omega))
  have HE : Hid (D.extract 0 8 = ⟨(tagL s g).toArray⟩) := Lib.hid (by
    rw [hD]
    apply ByteArray.ext
    apply Array.ext'
    simp [tagL])
  clear hO hK hC hD hABC hl1 hl2 hl3
  obtain ⟨W, hW⟩ : ∃ W, W = w.alloc (.cells #[.int .i64 g.gauge, .int .i64 g.seq, .int .i64 g.clock, .int .i64 g.value, .string g.tag] 23) := ⟨_, rfl⟩
  have HS0 : Hid (W.drew.cell? ⟨w.heap.size, 0, none⟩ = some (.int .i64 g.gauge) ∧ W.drew.cell? ⟨w.heap.size, 1, none⟩ = some (.int .i64 g.seq) ∧ W.drew.cell? ⟨w.heap.size, 2, none⟩ = some (.int .i64 g.clock) ∧ W.drew.cell? ⟨w.heap.size, 3, none⟩ = some (.int .i64 g.value) ∧ W.drew.cell? ⟨w.heap.size, 4, none⟩ = some (.string g.tag) ∧ w.heap.size < W.drew.heap.size ∧ Below w.heap.size w W.drew) := Lib.hid (by
    have hr : W.heap[w.heap.size]? = some (.cells #[.int .i64 g.gauge, .int .i64 g.seq, .int .i64 g.clock, .int .i64 g.value, .string g.tag] 23 (0, 0)) := by rw [hW]; exact heap_alloc_new _ _
    obtain ⟨h0, h1, h2, h3, h4, h5⟩ := c5_row hr
    exact ⟨h0, h1, h2, h3, h4, h5, by rw [hW]; exact ((Below.refl _ _).alloc (Nat.le_refl _) _).drew⟩)
  have hn1 : ¬ 9223372036854775807 < 6 + (K s).size := by omega
  have hn2 : ¬ 9223372036854775807 < 6 + (K s).size + C.size := by omega
  go_enter Tryd.func36, Tryd.ntmps36
  go_upto_region 1 with fail
  rw [← hW]
  clear hW
  go_region_held3 (fun w' => w'.cell? ⟨w.heap.size, 0, none⟩ = some (.int .i64 g.gauge) ∧ w'.cell? ⟨w.heap.size, 1, none⟩ = some (.int .i64 g.seq) ∧ w'.cell? ⟨w.heap.size, 2, none⟩ = some (.int .i64 g.clock) ∧ w'.cell? ⟨w.heap.size, 3, none⟩ = some (.int .i64 g.value) ∧ w'.cell? ⟨w.heap.size, 4, none⟩ = some (.string g.tag) ∧ w.heap.size < w'.heap.size ∧ Below w.heap.size w w') (first | assumption | exact HS0.out | exact s5_step (by assumption) hb) ((first | (go_at_call 39; refine (HK.out _ (by first | exact hs | decide) _).mono ?_; rintro e w' ⟨rfl, hb⟩) | (go_at_call 38; refine (HC.out _).mono ?_; rintro e w' ⟨rfl, hb⟩) | (go_at_call 58; refine (HD.out _).mono ?_; rintro e w' ⟨rfl, hb⟩)))
  all_goals (have HBf : Hid (Below w.heap.size w _) := Lib.hid (show _ ∧ _ ∧ _ ∧ _ ∧ _ ∧ _ ∧ Below w.heap.size w _ by assumption).2.2.2.2.2.2; go_wp2_with fail; go_ret; exact ⟨by rw [← HE.out]; rfl, HBf.out⟩)
set_option maxRecDepth 100000 in
set_option maxHeartbeats 4000000 in
theorem rseal_any (s : ByteArray) (g : GV) (w : World) (hs : s.size ≤ 300) (hO : GOk g) :
    Calls Tryd.prog 13 #[.string s, .agg #[.int .i64 g.gauge, .int .i64 g.seq, .int .i64 g.clock, .int .i64 g.value, .string g.tag]] w
      fun e w' => e = .returned (.agg #[.int .i64 g.gauge, .int .i64 g.seq, .int .i64 g.clock, .int .i64 g.value, .string ⟨(tagL s g).toArray⟩]) ∧ Below w.heap.size w w' := by
  obtain ⟨fs, hu⟩ := undG
  have HO := Lib.hid hO
  clear hO
  go_enter Tryd.func13, Tryd.ntmps13
  go_wp2_with fail
  have hB0 : Below w.heap.size w ((w.alloc (.cells #[.int .i64 g.gauge, .int .i64 g.seq, .int .i64 g.clock, .int .i64 g.value, .string g.tag] 23)).alloc (.cells #[.int .i64 0, .int .i64 0, .int .i64 0, .int .i64 0, .string ⟨#[]⟩] 23)) := ((Below.refl _ _).alloc (Nat.le_refl _) _).alloc (by simp) _
  have h0 := (two_rows' (w := w) (A := .cells #[.int .i64 g.gauge, .int .i64 g.seq, .int .i64 g.clock, .int .i64 g.value, .string g.tag] 23) (B := .cells #[.int .i64 0, .int .i64 0, .int .i64 0, .int .i64 0, .string ⟨#[]⟩] 23))
  refine (rtag_any s g _ hs HO.out).mono ?_
  rintro e w1 ⟨rfl, hb⟩
  have H0 := Lib.hid (blk_below h0.1 hb (by simp only [World.size_alloc]; omega))
  have H1 := Lib.hid (blk_below h0.2 hb (by simp only [World.size_alloc]; omega))
  have HB := Lib.hid (hB0.trans (hb.mono hB0.size))
  clear h0 hB0 hb
  generalize hTT : (⟨(tagL s g).toArray⟩ : ByteArray) = T at *
  have HTT := Lib.hid hTT
  clear hTT
  have c4 : w1.cell? ⟨w.heap.size, 4, none⟩ = some (.string g.tag) := (cell_of_row _ _ _ _ _ _ H0.out).trans rfl
  have f4 : w1.frozen? ⟨w.heap.size, 4, none⟩ = false := frozen_of_row _ _ _ _ _ H0.out
  go_upto_region 2 with fail
  have H2 : Hid ((w1.setCell ⟨w.heap.size, 4, none⟩ (.string T)).heap[w.heap.size]? = some (.cells #[.int .i64 g.gauge, .int .i64 g.seq, .int .i64 g.clock, .int .i64 g.value, .string T] 23 (0, 0))) := Lib.hid ((heap_setCell_same _ _ _ _ _ _ H0.out).trans rfl)
  have H3 : Hid ((w1.setCell ⟨w.heap.size, 4, none⟩ (.string T)).heap[w.heap.size + 1]? = some (.cells #[.int .i64 0, .int .i64 0, .int .i64 0, .int .i64 0, .string ⟨#[]⟩] 23 (0, 0))) := Lib.hid (by
    rw [heap_setCell_other _ _ _ _ (by show w.heap.size + 1 ≠ w.heap.size; omega)]; exact H1.out)
  have HB2 : Hid (Below w.heap.size w (w1.setCell ⟨w.heap.size, 4, none⟩ (.string T))) := Lib.hid (HB.out.setCell (Nat.le_refl _) _)
  generalize w1.setCell ⟨w.heap.size, 4, none⟩ (.string T) = W2 at *
  clear c4 f4 H0 H1 HB
  go_wp2_with (first | (refine wpList_load_row rfl 23 _ rfl _ rfl 23 _ _ _ H2.out hu rfl infoG ?_) | (refine wpList_store_row rfl 23 _ _ rfl (w.heap.size + 1) #[.int .i64 g.gauge, .int .i64 g.seq, .int .i64 g.clock, .int .i64 g.value, .string T] rfl rfl 23 _ H3.out infoG rfl (by simp [Value.oneCell']) ?_))
  refine bodyPost_ret (v := .agg #[.int .i64 g.gauge, .int .i64 g.seq, .int .i64 g.clock, .int .i64 g.value, .string T]) ?_ rfl ⟨by rw [← HTT.out], ?_⟩
  · exact results_cell_row rfl _ _ _ 23 _ (0, 0) _ rfl (setRow_heap _ _ _ _ _ _ H3.out) hu rfl infoG
  · exact below_setRow HB2.out (Nat.le_succ _) _
set_option maxRecDepth 100000 in
set_option maxHeartbeats 4000000 in
theorem rgenuine_any (s : ByteArray) (g : GV) (w : World) (hs : s.size ≤ 300) (hO : GOk g) :
    Calls Tryd.prog 15 #[.string s, .agg #[.int .i64 g.gauge, .int .i64 g.seq, .int .i64 g.clock, .int .i64 g.value, .string g.tag]] w fun e w' => e = .returned (.bool (genB s g)) ∧ Below w.heap.size w w' := by
  have HF : Hid (∀ w', Calls Tryd.prog 34 #[.agg #[.int .i64 g.gauge, .int .i64 g.seq, .int .i64 g.clock, .int .i64 g.value, .string g.tag]] w' fun e w'' => e = .returned (.bool (decide (Formed g))) ∧ Below w'.heap.size w' w'') := Lib.hid (fun w' => rformed_any g w')
  obtain ⟨T, hT⟩ : ∃ T, T = (⟨(tagL s g).toArray⟩ : ByteArray) := ⟨_, rfl⟩
  have HT : Hid (∀ w', Calls Tryd.prog 36 #[.string s, .agg #[.int .i64 g.gauge, .int .i64 g.seq, .int .i64 g.clock, .int .i64 g.value, .string g.tag]] w' fun e w'' => e = .returned (.string T) ∧ Below w'.heap.size w' w'') := Lib.hid (fun w' => by rw [hT]; exact rtag_any s g w' hs hO)
  have HE : Hid (genB s g = (decide (Formed g) && decide (g.tag = T))) := Lib.hid (by rw [hT]; unfold genB; rw [Bool.decide_and])
  have heq : (g.tag.toList == T.toList) = decide (g.tag = T) := by
    by_cases h : g.tag = T
    · rw [decide_eq_true h, h]; simp
    · rw [decide_eq_false h]; exact beq_eq_false_iff_ne.2 (fun e => h (str_eq' e))
  clear hT
  obtain ⟨W, hW⟩ : ∃ W, W = w.alloc (.cells #[.int .i64 g.gauge, .int .i64 g.seq, .int .i64 g.clock, .int .i64 g.value, .string g.tag] 23) := ⟨_, rfl⟩
  have HS0 : Hid (W.drew.cell? ⟨w.heap.size, 0, none⟩ = some (.int .i64 g.gauge) ∧ W.drew.cell? ⟨w.heap.size, 1, none⟩ = some (.int .i64 g.seq) ∧ W.drew.cell? ⟨w.heap.size, 2, none⟩ = some (.int .i64 g.clock) ∧ W.drew.cell? ⟨w.heap.size, 3, none⟩ = some (.int .i64 g.value) ∧ W.drew.cell? ⟨w.heap.size, 4, none⟩ = some (.string g.tag) ∧ w.heap.size < W.drew.heap.size ∧ Below w.heap.size w W.drew) := Lib.hid (by
    have hr : W.heap[w.heap.size]? = some (.cells #[.int .i64 g.gauge, .int .i64 g.seq, .int .i64 g.clock, .int .i64 g.value, .string g.tag] 23 (0, 0)) := by rw [hW]; exact heap_alloc_new _ _
    obtain ⟨h0, h1, h2, h3, h4, h5⟩ := c5_row hr
    exact ⟨h0, h1, h2, h3, h4, h5, by rw [hW]; exact ((Below.refl _ _).alloc (Nat.le_refl _) _).drew⟩)
  clear hO
  generalize decide (g.tag = T) = bt at *
  generalize decide (Formed g) = bf at *
  go_enter Tryd.func15, Tryd.ntmps15
  go_upto_region 1 with fail
  rw [← hW]
  clear hW
  cases bf
  · refine wp_region_noPanic ?_
    refine wp_region_held_drew (S := fun w' => w'.cell? ⟨w.heap.size, 0, none⟩ = some (.int .i64 g.gauge) ∧ w'.cell? ⟨w.heap.size, 1, none⟩ = some (.int .i64 g.seq) ∧ w'.cell? ⟨w.heap.size, 2, none⟩ = some (.int .i64 g.clock) ∧ w'.cell? ⟨w.heap.size, 3, none⟩ = some (.int .i64 g.value) ∧ w'.cell? ⟨w.heap.size, 4, none⟩ = some (.string g.tag) ∧ w.heap.size < w'.heap.size ∧ Below w.heap.size w w') (by kernel_rfl) HS0.out (fun hHeld => ?_)
    refine' wpAnyH_take (i := 0) (v := _) (by simp only [List.getElem?_toArray, List.getElem?_cons_zero]; exact rfl) (by kernel_rfl) (by kernel_rfl) (by kernel_rfl) (fun _ _ _ h => h) (Or.inl ⟨by rfl, ?y0x1⟩) hHeld ?r0x1
    case y0x1 => (intro w hSw; (try dsimp only at hSw); go_simp; try with_reducible rfl)
    try simp only [Act.put, List.setIfInBounds_toArray, List.set_cons_zero, List.set_cons_succ]
    refine wpAnyH_ready (rs := [1]) (by kernel_rfl) (by simp) ?_
    refine AllReadyH.cons (by simp only [List.getElem?_toArray, List.getElem?_cons_succ, List.getElem?_cons_zero]; exact rfl) (fun K hK => ?_) AllReadyH.nil
    go_simp
    refine (HF.out _).mono ?_
    rintro e w' ⟨rfl, hb⟩
    refine hK.out _ _ (s5_step hHeld hb) (fun hHeld => ?_)
    clear hK K hb
    try simp only [Act.put, List.setIfInBounds_toArray, List.set_cons_zero, List.set_cons_succ]
    refine' wpAnyH_take (i := 2) (v := _) (by simp only [List.getElem?_toArray, List.getElem?_cons_succ, List.getElem?_cons_zero]; exact rfl) (by kernel_rfl) (by kernel_rfl) (by kernel_rfl) (fun _ _ _ h => h) (Or.inl ⟨by rfl, ?y2x2⟩) hHeld ?r2x2
    case y2x2 => (intro w hSw; (try dsimp only at hSw); go_simp; try with_reducible rfl)
    try simp only [Act.put, List.setIfInBounds_toArray, List.set_cons_zero, List.set_cons_succ]
    refine wpAnyH_take (i := 3) (v := undef) (by simp only [List.getElem?_toArray, List.getElem?_cons_succ, List.getElem?_cons_zero]; exact rfl) (by kernel_rfl) (by kernel_rfl) (by kernel_rfl) (fun _ _ _ h => h) (Or.inr ⟨by rfl, rfl⟩) hHeld ?_
    try simp only [Act.put, List.setIfInBounds_toArray, List.set_cons_zero, List.set_cons_succ]
    refine wpAnyH_take (i := 4) (v := undef) (by simp only [List.getElem?_toArray, List.getElem?_cons_succ, List.getElem?_cons_zero]; exact rfl) (by kernel_rfl) (by kernel_rfl) (by kernel_rfl) (fun _ _ _ h => h) (Or.inr ⟨by rfl, rfl⟩) hHeld ?_
    try simp only [Act.put, List.setIfInBounds_toArray, List.set_cons_zero, List.set_cons_succ]
    refine wpAnyH_take (i := 5) (v := undef) (by simp only [List.getElem?_toArray, List.getElem?_cons_succ, List.getElem?_cons_zero]; exact rfl) (by kernel_rfl) (by kernel_rfl) (by kernel_rfl) (fun _ _ _ h => h) (Or.inr ⟨by rfl, rfl⟩) hHeld ?_
    try simp only [Act.put, List.setIfInBounds_toArray, List.set_cons_zero, List.set_cons_succ]
    refine wpAnyH_take (i := 6) (v := undef) (by simp only [List.getElem?_toArray, List.getElem?_cons_succ, List.getElem?_cons_zero]; exact rfl) (by kernel_rfl) (by kernel_rfl) (by kernel_rfl) (fun _ _ _ h => h) (Or.inr ⟨by rfl, rfl⟩) hHeld ?_
    try simp only [Act.put, List.setIfInBounds_toArray, List.set_cons_zero, List.set_cons_succ]
    refine wpAnyH_take (i := 7) (v := undef) (by simp only [List.getElem?_toArray, List.getElem?_cons_succ, List.getElem?_cons_zero]; exact rfl) (by kernel_rfl) (by kernel_rfl) (by kernel_rfl) (fun _ _ _ h => h) (Or.inr ⟨by rfl, rfl⟩) hHeld ?_
    try simp only [Act.put, List.setIfInBounds_toArray, List.set_cons_zero, List.set_cons_succ]
    refine wpAnyH_take (i := 8) (v := undef) (by simp only [List.getElem?_toArray, List.getElem?_cons_succ, List.getElem?_cons_zero]; exact rfl) (by kernel_rfl) (by kernel_rfl) (by kernel_rfl) (fun _ _ _ h => h) (Or.inr ⟨by rfl, rfl⟩) hHeld ?_
    try simp only [Act.put, List.setIfInBounds_toArray, List.set_cons_zero, List.set_cons_succ]
    refine' wpAnyH_take (i := 9) (v := _) (by simp only [List.getElem?_toArray, List.getElem?_cons_succ, List.getElem?_cons_zero]; exact rfl) (by kernel_rfl) (by kernel_rfl) (by kernel_rfl) (fun _ _ _ h => h) (Or.inl ⟨by rfl, ?y9x3⟩) hHeld ?r9x3
    case y9x3 => (intro w hSw; (try dsimp only at hSw); go_simp; try with_reducible rfl)
    try simp only [Act.put, List.setIfInBounds_toArray, List.set_cons_zero, List.set_cons_succ]
    refine' wpAnyH_take (i := 10) (v := _) (by simp only [List.getElem?_toArray, List.getElem?_cons_succ, List.getElem?_cons_zero]; exact rfl) (by kernel_rfl) (by kernel_rfl) (by kernel_rfl) (fun _ _ _ h => h) (Or.inl ⟨by rfl, ?y10x4⟩) hHeld ?r10x4
    case y10x4 => (intro w hSw; (try dsimp only at hSw); go_simp; try with_reducible rfl)
    try simp only [Act.put, List.setIfInBounds_toArray, List.set_cons_zero, List.set_cons_succ]
    refine wpAnyH_done (by kernel_rfl) ?_ _
    refine NoPanic.normal ?_
    have HBf := Lib.hid hHeld.2.2.2.2.2.2
    go_wp2_with fail
    go_ret
    exact ⟨by rw [HE.out]; rfl, HBf.out⟩
  · go_region_held3 (fun w' => w'.cell? ⟨w.heap.size, 0, none⟩ = some (.int .i64 g.gauge) ∧ w'.cell? ⟨w.heap.size, 1, none⟩ = some (.int .i64 g.seq) ∧ w'.cell? ⟨w.heap.size, 2, none⟩ = some (.int .i64 g.clock) ∧ w'.cell? ⟨w.heap.size, 3, none⟩ = some (.int .i64 g.value) ∧ w'.cell? ⟨w.heap.size, 4, none⟩ = some (.string g.tag) ∧ w.heap.size < w'.heap.size ∧ Below w.heap.size w w') (first | assumption | exact HS0.out | exact s5_step (by assumption) hb) ((first | (go_at_call 34; refine (HF.out _).mono ?_; rintro e w' ⟨rfl, hb⟩) | (go_at_call 36; refine (HT.out _).mono ?_; rintro e w' ⟨rfl, hb⟩)))
    all_goals (have HBf : Hid (Below w.heap.size w _) := Lib.hid (show _ ∧ _ ∧ _ ∧ _ ∧ _ ∧ _ ∧ Below w.heap.size w _ by assumption).2.2.2.2.2.2; go_wp2_with fail; go_ret; exact ⟨by rw [HE.out, Bool.true_and]; rfl, HBf.out⟩)
set_option maxRecDepth 100000 in
set_option maxHeartbeats 4000000 in
theorem rbytes_any (g : GV) (w : World) (hO : GOk g) (_ht : g.tag.size ≤ 300) :
    Calls Tryd.prog 19 #[.agg #[.int .i64 g.gauge, .int .i64 g.seq, .int .i64 g.clock, .int .i64 g.value, .string g.tag]] w
      fun e w' => e = .returned (.string ⟨(gramL g).toArray⟩) ∧ Below w.heap.size w w' := by
  have HO := Lib.hid hO
  obtain ⟨B, hB⟩ : ∃ B, B = (⟨(textL g.tag.data.toList).toArray⟩ : ByteArray) := ⟨_, rfl⟩
  obtain ⟨C, hC⟩ : ∃ C, C = (⟨(coreL g).toArray⟩ : ByteArray) := ⟨_, rfl⟩
  have hl1 := text_len g.tag
  have hl2 := coreL_len hO
  have hBs : B.size ≤ 1000 := by
    rw [hB]
    show (textL g.tag.data.toList).length ≤ 1000
    omega
  have hCs : C.size ≤ 36 := by rw [hC]; exact hl2
  have HB : Hid (∀ w', Calls Tryd.prog 39 #[.string g.tag] w' fun e w'' => e = .returned (.string B) ∧ Below w'.heap.size w' w'') := Lib.hid (fun w' => by rw [hB]; exact rtext_any _ _ (by omega))
  have HC : Hid (∀ w', Calls Tryd.prog 38 #[.agg #[.int .i64 g.gauge, .int .i64 g.seq, .int .i64 g.clock, .int .i64 g.value, .string g.tag]] w' fun e w'' => e = .returned (.string C) ∧ Below w'.heap.size w' w'') := Lib.hid (fun w' => by rw [hC]; exact rcore_any g _ hO)
  have HBC : Hid (C ++ B = ⟨(coreL g ++ textC g.tag).toArray⟩) := Lib.hid (by rw [hB, hC, bytes_cat]; rfl)
  have hn1 : ¬ 9223372036854775807 < C.size + B.size := by omega
  clear hO hB hC hl1 hl2
  go_enter Tryd.func19, Tryd.ntmps19
  go_wp2_with fail
  have hB0 : Below w.heap.size w (w.alloc (.cells #[.int .i64 g.gauge, .int .i64 g.seq, .int .i64 g.clock, .int .i64 g.value, .string g.tag] 23)) := (Below.refl _ _).alloc (Nat.le_refl _) _
  have h0 := heap_alloc_new w (.cells #[.int .i64 g.gauge, .int .i64 g.seq, .int .i64 g.clock, .int .i64 g.value, .string g.tag] 23)
  refine (rformed_any g _).mono ?_
  rintro e w1 ⟨rfl, hb⟩
  have H0 := Lib.hid (blk_below h0 hb (by simp only [World.size_alloc]; omega))
  have HBw := Lib.hid (hB0.trans (hb.mono hB0.size))
  clear h0 hB0 hb
  by_cases hF : Formed g
  · have HG : Hid (gramL g = coreL g ++ textC g.tag) := Lib.hid (gramL_formed hF)
    rw [decide_eq_true hF]
    clear hF
    go_wp2_with fail
    have HS0 : Hid (w1.drew.cell? ⟨w.heap.size, 0, none⟩ = some (.int .i64 g.gauge) ∧ w1.drew.cell? ⟨w.heap.size, 1, none⟩ = some (.int .i64 g.seq) ∧ w1.drew.cell? ⟨w.heap.size, 2, none⟩ = some (.int .i64 g.clock) ∧ w1.drew.cell? ⟨w.heap.size, 3, none⟩ = some (.int .i64 g.value) ∧ w1.drew.cell? ⟨w.heap.size, 4, none⟩ = some (.string g.tag) ∧ w.heap.size < w1.drew.heap.size ∧ Below w.heap.size w w1.drew) := Lib.hid (by
      refine ⟨?_, ?_, ?_, ?_, ?_, ?_, ?_⟩
      · exact (cell_of_row _ _ _ _ _ _ H0.out).trans rfl
      · exact (cell_of_row _ _ _ _ _ _ H0.out).trans rfl
      · exact (cell_of_row _ _ _ _ _ _ H0.out).trans rfl
      · exact (cell_of_row _ _ _ _ _ _ H0.out).trans rfl
      · exact (cell_of_row _ _ _ _ _ _ H0.out).trans rfl
      · exact blk_lt H0.out
      · exact HBw.out.drew)
    clear H0 HBw
    go_region_held3 (fun w' => w'.cell? ⟨w.heap.size, 0, none⟩ = some (.int .i64 g.gauge) ∧ w'.cell? ⟨w.heap.size, 1, none⟩ = some (.int .i64 g.seq) ∧ w'.cell? ⟨w.heap.size, 2, none⟩ = some (.int .i64 g.clock) ∧ w'.cell? ⟨w.heap.size, 3, none⟩ = some (.int .i64 g.value) ∧ w'.cell? ⟨w.heap.size, 4, none⟩ = some (.string g.tag) ∧ w.heap.size < w'.heap.size ∧ Below w.heap.size w w') (first | assumption | exact HS0.out | exact s5_step (by assumption) hb) ((first | (go_at_call 39; refine (HB.out _).mono ?_; rintro e w' ⟨rfl, hb⟩) | (go_at_call 38; refine (HC.out _).mono ?_; rintro e w' ⟨rfl, hb⟩)))
    all_goals (have HBf : Hid (Below w.heap.size w _) := Lib.hid (show _ ∧ _ ∧ _ ∧ _ ∧ _ ∧ _ ∧ Below w.heap.size w _ by assumption).2.2.2.2.2.2; go_wp2_with fail; go_ret; exact ⟨by rw [HG.out, ← HBC.out]; rfl, HBf.out⟩)
  · have HG : Hid (gramL g = []) := Lib.hid (gramL_nil.2 hF)
    rw [decide_eq_false hF]
    clear hF
    go_wp2_with fail
    go_ret
    exact ⟨by rw [HG.out]; rfl, HBw.out⟩
end Go.Proofs.YtmlfkhpmgjcliaaDoor
