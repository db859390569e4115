/- bournelaw29.CastReplays returns true, at news that are not nil. -/
import Derived.Test.YtleiiedacachjaaKRepL
import Derived.Test.YtleiiedacachjaaKSmall
import Derived.Test.YtleiiedacachjaaKFew
import Derived.Deep.DeepCutAuto
namespace Go.Proofs.Ytleiiedacachjaa
open Go.RowKit
theorem undNs : Try.prog.underlying 22 = some (.slice 29) := by kernel_rfl
theorem infoNe : ∃ i z, Try.prog.info? 29 = some i ∧ i.size = 5 ∧ i.zero = some z ∧ z.cells.size = 5 ∧ i.bytes * 1024 ≤ 140737488355328 := by
  have h : (Try.prog.info? 29).map (fun i => (i.size, i.zero.map (fun z => z.cells.size), decide (i.bytes * 1024 ≤ 140737488355328))) = some (5, some 5, true) := by kernel_rfl
  cases hi : Try.prog.info? 29 with
  | none => rw [hi] at h; cases h
  | some i =>
    rw [hi] at h
    simp only [Option.map_some, Option.some.injEq, Prod.mk.injEq] at h
    obtain ⟨h1, h2, h3⟩ := h
    cases hz : i.zero with
    | none => rw [hz] at h2; cases h2
    | some z =>
      rw [hz] at h2
      simp only [Option.map_some, Option.some.injEq] at h2
      exact ⟨i, z, rfl, h1, hz, h2, of_decide_eq_true h3⟩
theorem oneE {G : List Ent} (h : ∀ q ∈ G, ∃ a n c, q.2 = .slice a n c) : ∀ u ∈ G.flatMap cellsE, u.oneCell' = true := fun u hu => by
  rw [List.mem_flatMap] at hu
  obtain ⟨q, hq, hu⟩ := hu
  obtain ⟨a, n, c, e⟩ := h q hq
  unfold cellsE cellsN at hu
  rw [e] at hu
  simp only [List.mem_cons, List.not_mem_nil, or_false] at hu
  rcases hu with rfl | rfl | rfl | rfl | rfl <;> rfl
theorem take_get {α : Type} {l : List α} {k i : Nat} {q : α} (h : (l.take k)[i]? = some q) : l[0 + i]? = some q := by
  rw [Nat.zero_add]
  rw [List.getElem?_take] at h
  split at h
  · exact h
  · cases h
theorem own_apart {w w' : World} {b1 b2 n1 n2 s1 s2 : Nat} {e1 e2 : TypeId} {v1 v2 : Value} {x1 x2 : List Value} (h1 : w.ownsRow b1 e1 s1 v1 n1 x1) (h2 : w'.ownsRow b2 e2 s2 v2 n2 x2) (hle : w'.heap.size ≤ b1) : v1.ownBlock = none ∨ v1.ownBlock ≠ v2.ownBlock := by
  cases h : v1.ownBlock with
  | none => exact Or.inl rfl
  | some k =>
    refine Or.inr fun e => ?_
    have a1 := (h1.lt k h).1
    have a2 := (h2.lt k e.symm).2
    omega
theorem ent_mem {E : List Ent} {j : Nat} {q : Ent} (h1 : (E.map (·.1))[j]? = some q.1) (h2 : (E.map (·.2))[j]? = some q.2) : q ∈ E := by
  rw [List.getElem?_map, Option.map_eq_some_iff] at h1 h2
  obtain ⟨a, ha, e1⟩ := h1
  obtain ⟨b, hb, e2⟩ := h2
  rw [ha] at hb
  cases hb
  have : a = q := Prod.ext e1 e2
  rw [← this]
  exact List.mem_of_getElem? ha
theorem casts_of {ks : List Ent} {l : List NewsV} (h : ks.map (·.1) = l) : (ks.map fun q => q.1.cast) = l.map (·.cast) := by
  rw [← h, List.map_map]
  rfl
theorem owns_empty (w : World) : (w.alloc (.cells #[] 29)).drew.ownsRow w.heap.size 29 5 (.slice (some ⟨w.heap.size, 0, none⟩) 0 0) 0 [] :=
  ⟨rfl, Or.inr ⟨w.heap.size, 0, #[], rfl, Nat.le_refl _, heap_alloc_new w (.cells #[] 29), Nat.le_refl _, Nat.zero_le _, rfl, rfl⟩⟩
set_option maxRecDepth 100000 in
set_option maxHeartbeats 8000000 in
theorem replays_core (E : List Ent) (b o c : Nat) (n h : Int) (w : World) (hS : NewsS (E.map (·.1)) (E.map (·.2)) (some ⟨b, o, none⟩) w) (hlt : ∀ (i : Nat) (q : Ent), E[i]? = some q → b < w.heap.size) (hat : ∀ (i : Nat) (q : Ent), E[i]? = some q → w.rangeAt b (o + i * 5) (cellsE q))
    (hr : ∀ q ∈ E, LArg (RList RSpan 2) 1 q.2 q.1.cast.rain w) (hI : ∀ x ∈ (E.map (·.1)), NewsI x) (hc : E.length ≤ c ∧ c ≤ 9223372036854775807) :
    Calls Try.prog 3 #[.slice (some ⟨b, o, none⟩) E.length c, .int .i64 n, .int .i64 h] w fun e w' => e = .returned (.bool true) ∧ Below w.heap.size w w' := by
  obtain ⟨ic, zc, hic, hsz, hzc, hcz, hbc⟩ := infoNe
  have HLM : Hid ((E.map (·.1)).length = E.length) := Lib.hid (List.length_map _)
  have HS := Lib.hid hS
  have HR := Lib.hid hr
  have HI := Lib.hid hI
  have HAT : Hid (∀ W, Below w.heap.size w W → ∀ (i : Nat) (q : Ent), E[i]? = some q → W.rangeAt b (o + i * 5) (cellsE q)) := Lib.hid fun W hb i q hq => range_below (hat i q hq) hb (hlt i q hq)
  have HSL : Hid (∀ q ∈ E, ∃ a n c, q.2 = .slice a n c) := Lib.hid fun q hq => by
    obtain ⟨a, c, e, _⟩ := (hr q hq).slice
    exact ⟨a, _, c, e⟩
  obtain ⟨hc1, hc2⟩ := hc
  clear hS hr hI hat hlt
  go_enter Try.func3, Try.ntmps3
  go_wp2_with fail
  refine (small_any _).mono ?_
  rintro e w0 ⟨rfl, hb⟩
  have HB0 := Lib.hid hb
  clear hb
  go_wp2_with fail
  have hfew := few_any (E.map (·.1)) (E.map (·.2)) (some ⟨b, o, none⟩) c w0 (HS.out.below HB0.out) (by rw [HLM.out]; omega)
  rw [HLM.out] at hfew
  refine hfew.mono ?_
  rintro e w1 ⟨rfl, hb⟩
  have HB1 := Lib.hid (HB0.out.trans (hb.mono HB0.out.size))
  clear hb HB0 hfew
  cases hF : fewB (E.map (·.1))
  · go_wp2_with fail
    go_ret
    exact ⟨rfl, HB1.out⟩
  have hFI := fewB_iff.1 hF
  have hl40 : E.length ≤ 40 := by have := hFI.1; rw [HLM.out] at this; exact this
  have HFE := Lib.hid hFI.2
  clear hF hFI
  by_cases t1 : n < 0
  · go_wp2_with fail
    go_ret
    exact ⟨rfl, HB1.out⟩
  by_cases t2 : (E.length : Int) < n
  · go_wp2_with fail
    go_ret
    exact ⟨rfl, HB1.out⟩
  obtain ⟨m, rfl⟩ : ∃ m : Nat, n = (m : Int) := ⟨n.toNat, by omega⟩
  have hml : m ≤ E.length := by omega
  go_upto_region 5 with fail
  have HE0 := Lib.hid (owns_empty w1)
  have hmc : m ≤ c := by omega
  go_cut [9] (fun s9 wx => wx.ownsRow w1.heap.size 29 5 s9 (E.drop m ++ E.take m).length ((E.drop m ++ E.take m).flatMap cellsE) ∧ Below w1.heap.size w1 wx)
  case first =>
    by_cases hcm : c = m
    · obtain rfl : m = c := hcm.symm
      refine wp_region_noPanic ?_
      refine wp_region_held_drew (S := fun w' => Below w1.heap.size w1 w') (by kernel_rfl) (Below.refl _ _).drew (fun hHeld => ?_)
      refine' wpAnyH_take (i := 1) (v := _) (by simp only [List.getElem?_toArray, List.getElem?_cons_succ, List.getElem?_cons_zero]; exact rfl) (by kernel_rfl) (by kernel_rfl) (by kernel_rfl) (fun _ _ _ h => h) (Or.inl ⟨by rfl, ?y1x1⟩) hHeld ?r1x1
      case y1x1 => (intro w hSw; (try dsimp only at hSw); go_simp; try with_reducible rfl)
      try simp only [Act.put, List.setIfInBounds_toArray, List.set_cons_zero, List.set_cons_succ]
      refine' wpAnyH_take (i := 2) (v := _) (by simp only [List.getElem?_toArray, List.getElem?_cons_succ, List.getElem?_cons_zero]; exact rfl) (by kernel_rfl) (by kernel_rfl) (by kernel_rfl) (fun _ _ _ h => h) (Or.inl ⟨by rfl, ?y2x2⟩) hHeld ?r2x2
      case y2x2 => (intro w hSw; (try dsimp only at hSw); go_simp; try with_reducible rfl)
      try simp only [Act.put, List.setIfInBounds_toArray, List.set_cons_zero, List.set_cons_succ]
      refine' wpAnyH_take (i := 3) (v := _) (by simp only [List.getElem?_toArray, List.getElem?_cons_succ, List.getElem?_cons_zero]; exact rfl) (by kernel_rfl) (by kernel_rfl) (by kernel_rfl) (fun _ _ _ h => h) (Or.inl ⟨by rfl, ?y3x3⟩) hHeld ?r3x3
      case y3x3 => (intro w hSw; (try dsimp only at hSw); go_simp; try with_reducible rfl)
      try simp only [Act.put, List.setIfInBounds_toArray, List.set_cons_zero, List.set_cons_succ]
      refine' wpAnyH_take (i := 5) (v := _) (by simp only [List.getElem?_toArray, List.getElem?_cons_succ, List.getElem?_cons_zero]; exact rfl) (by kernel_rfl) (by kernel_rfl) (by kernel_rfl) (fun _ _ _ h => h) (Or.inl ⟨by rfl, ?y5x4⟩) hHeld ?r5x4
      case y5x4 => (intro w hSw; (try dsimp only at hSw); go_simp; try with_reducible rfl)
      try simp only [Act.put, List.setIfInBounds_toArray, List.set_cons_zero, List.set_cons_succ]
      refine' wpAnyH_take (i := 6) (v := _) (by simp only [List.getElem?_toArray, List.getElem?_cons_succ, List.getElem?_cons_zero]; exact rfl) (by kernel_rfl) (by kernel_rfl) (by kernel_rfl) (fun _ _ _ h => h) (Or.inl ⟨by rfl, ?y6x5⟩) hHeld ?r6x5
      case y6x5 => (intro w hSw; (try dsimp only at hSw); go_simp; try with_reducible rfl)
      try simp only [Act.put, List.setIfInBounds_toArray, List.set_cons_zero, List.set_cons_succ]
      refine' wpAnyH_take (i := 7) (v := _) (by simp only [List.getElem?_toArray, List.getElem?_cons_succ, List.getElem?_cons_zero]; exact rfl) (by kernel_rfl) (by kernel_rfl) (by kernel_rfl) (fun _ _ _ h => h) (Or.inl ⟨by rfl, ?y7x6⟩) hHeld ?r7x6
      case y7x6 => (intro w hSw; (try dsimp only at hSw); go_simp; try with_reducible rfl)
      try simp only [Act.put, List.setIfInBounds_toArray, List.set_cons_zero, List.set_cons_succ]
      refine wpAnyH_ready (rs := [0]) (by kernel_rfl) (by simp) ?_
      refine AllReadyH.cons (by simp only [List.getElem?_toArray, List.getElem?_cons_zero]; exact rfl) (fun K hK => ?_) AllReadyH.nil
      go_simp
      refine hK.out _ _ ((Below.refl w1.heap.size w1).alloc (Nat.le_refl _) (.cells #[] 29)).drew (fun hHeld => ?_)
      clear hK K
      try simp only [Act.put, List.setIfInBounds_toArray, List.set_cons_zero, List.set_cons_succ]
      refine wpAnyH_ready (rs := [4]) (by kernel_rfl) (by simp) ?_
      refine AllReadyH.cons (by simp only [List.getElem?_toArray, List.getElem?_cons_succ, List.getElem?_cons_zero]; exact rfl) (fun K hK => ?_) AllReadyH.nil
      refine step_append_own rfl _ _ 22 rfl w1.heap.size 29 ic zc 5 ic.bytes undNs hic hzc hsz rfl hcz (by decide) _ 0 [] rfl HE0.out ⟨b, o, none⟩ 0 0 [] (by rfl) rfl (fun j u hu => by simp at hu) (fun u hu => by simp at hu) (by unfold maxLen; omega) (Nat.le_trans (Nat.mul_le_mul_right _ (show 0 + 0 ≤ 1024 by omega)) (by rw [Nat.mul_comm]; exact hbc)) (by simp) ?_
      intro v1 w3 hown1 hgr1 _
      have hz1 : w1.heap.size ≤ (w1.alloc (.cells #[] 29)).drew.heap.size := ((Below.refl w1.heap.size w1).alloc (Nat.le_refl _) (.cells #[] 29)).size
      have HB3 : Hid (Below w1.heap.size w1 w3) := Lib.hid (((Below.refl w1.heap.size w1).alloc (Nat.le_refl _) (.cells #[] 29)).drew.grown hgr1 hz1 (fun q e => (HE0.out.lt q e).1))
      have HO3 := Lib.hid hown1
      refine hK.out _ _ HB3.out (fun hHeld => ?_)
      clear hK K hown1 hgr1 hz1
      try simp only [Act.put, List.setIfInBounds_toArray, List.set_cons_zero, List.set_cons_succ]
      refine wpAnyH_ready (rs := [8]) (by kernel_rfl) (by simp) ?_
      refine AllReadyH.cons (by simp only [List.getElem?_toArray, List.getElem?_cons_succ, List.getElem?_cons_zero]; exact rfl) (fun K hK => ?_) AllReadyH.nil
      refine step_append_own rfl _ _ 22 rfl w1.heap.size 29 ic zc 5 ic.bytes undNs hic hzc hsz rfl hcz (by decide) _ _ _ rfl HO3.out ⟨b, o, none⟩ m m ((E.take m).flatMap cellsE) (by rfl) (by rw [flatE_len, List.length_take]; congr 1; omega) (fun j u hu => by
          have h := part_cells (HAT.out _ (HB1.out.trans (HB3.out.mono HB1.out.size))) 0 (E.take m) (fun i q hq => take_get hq) j u hu
          rwa [Nat.zero_mul, Nat.add_zero] at h) (oneE fun q hq => HSL.out q (List.mem_of_mem_take hq)) (by unfold maxLen; omega) (Nat.le_trans (Nat.mul_le_mul_right _ (show 0 + 0 + m ≤ 1024 by omega)) (by rw [Nat.mul_comm]; exact hbc)) HB3.out.size ?_
      intro v2 w4 hown2 hgr2 _
      have HB4 : Hid (Below w1.heap.size w1 w4) := Lib.hid (HB3.out.grown hgr2 HB3.out.size (fun q e => (HO3.out.lt q e).1))
      have HO4 : Hid (w4.ownsRow w1.heap.size 29 5 v2 (E.drop m ++ E.take m).length ((E.drop m ++ E.take m).flatMap cellsE)) := Lib.hid (by
        rw [List.flatMap_append, List.length_append, List.length_drop, List.length_take, Nat.min_eq_left hml]
        have hd : E.drop m = [] := List.drop_eq_nil_of_le (by omega)
        have hdl : E.length - m = 0 := by omega
        rw [hd, hdl]
        simpa using hown2)
      refine hK.out _ _ HB4.out (fun hHeld => ?_)
      clear hK K hown2 hgr2
      try simp only [Act.put, List.setIfInBounds_toArray, List.set_cons_zero, List.set_cons_succ]
      refine' wpAnyH_take (i := 9) (v := _) (by simp only [List.getElem?_toArray, List.getElem?_cons_succ, List.getElem?_cons_zero]; exact rfl) (by kernel_rfl) (by kernel_rfl) (by kernel_rfl) (fun _ _ _ h => h) (Or.inl ⟨by rfl, ?y9x7⟩) hHeld ?r9x7
      case y9x7 => (intro w hSw; (try dsimp only at hSw); go_simp; try with_reducible rfl)
      try simp only [Act.put, List.setIfInBounds_toArray, List.set_cons_zero, List.set_cons_succ]
      refine wpAnyH_done (by kernel_rfl) ?_ _
      refine NoPanic.normal ?_
      go_wp2_with fail
      go_meet
      exact ⟨HO4.out, hHeld⟩

    · refine wp_region_noPanic ?_
      refine wp_region_held_drew (S := fun w' => Below w1.heap.size w1 w') (by kernel_rfl) (Below.refl _ _).drew (fun hHeld => ?_)
      refine' wpAnyH_take (i := 1) (v := _) (by simp only [List.getElem?_toArray, List.getElem?_cons_succ, List.getElem?_cons_zero]; exact rfl) (by kernel_rfl) (by kernel_rfl) (by kernel_rfl) (fun _ _ _ h => h) (Or.inl ⟨by rfl, ?y1x8⟩) hHeld ?r1x8
      case y1x8 => (intro w hSw; (try dsimp only at hSw); go_simp; try with_reducible rfl)
      try simp only [Act.put, List.setIfInBounds_toArray, List.set_cons_zero, List.set_cons_succ]
      refine' wpAnyH_take (i := 2) (v := _) (by simp only [List.getElem?_toArray, List.getElem?_cons_succ, List.getElem?_cons_zero]; exact rfl) (by kernel_rfl) (by kernel_rfl) (by kernel_rfl) (fun _ _ _ h => h) (Or.inl ⟨by rfl, ?y2x9⟩) hHeld ?r2x9
      case y2x9 => (intro w hSw; (try dsimp only at hSw); go_simp; try with_reducible rfl)
      try simp only [Act.put, List.setIfInBounds_toArray, List.set_cons_zero, List.set_cons_succ]
      refine' wpAnyH_take (i := 3) (v := _) (by simp only [List.getElem?_toArray, List.getElem?_cons_succ, List.getElem?_cons_zero]; exact rfl) (by kernel_rfl) (by kernel_rfl) (by kernel_rfl) (fun _ _ _ h => h) (Or.inl ⟨by rfl, ?y3x10⟩) hHeld ?r3x10
      case y3x10 => (intro w hSw; (try dsimp only at hSw); go_simp; try with_reducible rfl)
      try simp only [Act.put, List.setIfInBounds_toArray, List.set_cons_zero, List.set_cons_succ]
      refine' wpAnyH_take (i := 5) (v := _) (by simp only [List.getElem?_toArray, List.getElem?_cons_succ, List.getElem?_cons_zero]; exact rfl) (by kernel_rfl) (by kernel_rfl) (by kernel_rfl) (fun _ _ _ h => h) (Or.inl ⟨by rfl, ?y5x11⟩) hHeld ?r5x11
      case y5x11 => (intro w hSw; (try dsimp only at hSw); go_simp; try with_reducible rfl)
      try simp only [Act.put, List.setIfInBounds_toArray, List.set_cons_zero, List.set_cons_succ]
      refine' wpAnyH_take (i := 6) (v := _) (by simp only [List.getElem?_toArray, List.getElem?_cons_succ, List.getElem?_cons_zero]; exact rfl) (by kernel_rfl) (by kernel_rfl) (by kernel_rfl) (fun _ _ _ h => h) (Or.inl ⟨by rfl, ?y6x12⟩) hHeld ?r6x12
      case y6x12 => (intro w hSw; (try dsimp only at hSw); go_simp; try with_reducible rfl)
      try simp only [Act.put, List.setIfInBounds_toArray, List.set_cons_zero, List.set_cons_succ]
      refine' wpAnyH_take (i := 7) (v := _) (by simp only [List.getElem?_toArray, List.getElem?_cons_succ, List.getElem?_cons_zero]; exact rfl) (by kernel_rfl) (by kernel_rfl) (by kernel_rfl) (fun _ _ _ h => h) (Or.inl ⟨by rfl, ?y7x13⟩) hHeld ?r7x13
      case y7x13 => (intro w hSw; (try dsimp only at hSw); go_simp; try with_reducible rfl)
      try simp only [Act.put, List.setIfInBounds_toArray, List.set_cons_zero, List.set_cons_succ]
      refine wpAnyH_ready (rs := [0]) (by kernel_rfl) (by simp) ?_
      refine AllReadyH.cons (by simp only [List.getElem?_toArray, List.getElem?_cons_zero]; exact rfl) (fun K hK => ?_) AllReadyH.nil
      go_simp
      refine hK.out _ _ ((Below.refl w1.heap.size w1).alloc (Nat.le_refl _) (.cells #[] 29)).drew (fun hHeld => ?_)
      clear hK K
      try simp only [Act.put, List.setIfInBounds_toArray, List.set_cons_zero, List.set_cons_succ]
      refine wpAnyH_ready (rs := [4]) (by kernel_rfl) (by simp) ?_
      refine AllReadyH.cons (by simp only [List.getElem?_toArray, List.getElem?_cons_succ, List.getElem?_cons_zero]; exact rfl) (fun K hK => ?_) AllReadyH.nil
      refine step_append_own rfl _ _ 22 rfl w1.heap.size 29 ic zc 5 ic.bytes undNs hic hzc hsz rfl hcz (by decide) _ 0 [] rfl HE0.out ⟨b, o + m * 5, none⟩ (E.length - m) (c - m) ((E.drop m).flatMap cellsE) (by rfl) (by rw [flatE_len, List.length_drop]) (part_cells (HAT.out _ (HB1.out.trans (((Below.refl w1.heap.size w1).alloc (Nat.le_refl _) (.cells #[] 29)).drew.mono HB1.out.size))) m (E.drop m) (fun i q hq => by rw [List.getElem?_drop] at hq; exact hq)) (oneE fun q hq => HSL.out q (List.mem_of_mem_drop hq)) (by unfold maxLen; omega) (Nat.le_trans (Nat.mul_le_mul_right _ (show 0 + (E.length - m) ≤ 1024 by omega)) (by rw [Nat.mul_comm]; exact hbc)) (by simp) ?_
      intro v1 w3 hown1 hgr1 _
      have hz1 : w1.heap.size ≤ (w1.alloc (.cells #[] 29)).drew.heap.size := ((Below.refl w1.heap.size w1).alloc (Nat.le_refl _) (.cells #[] 29)).size
      have HB3 : Hid (Below w1.heap.size w1 w3) := Lib.hid (((Below.refl w1.heap.size w1).alloc (Nat.le_refl _) (.cells #[] 29)).drew.grown hgr1 hz1 (fun q e => (HE0.out.lt q e).1))
      have HO3 := Lib.hid hown1
      refine hK.out _ _ HB3.out (fun hHeld => ?_)
      clear hK K hown1 hgr1 hz1
      try simp only [Act.put, List.setIfInBounds_toArray, List.set_cons_zero, List.set_cons_succ]
      refine wpAnyH_ready (rs := [8]) (by kernel_rfl) (by simp) ?_
      refine AllReadyH.cons (by simp only [List.getElem?_toArray, List.getElem?_cons_succ, List.getElem?_cons_zero]; exact rfl) (fun K hK => ?_) AllReadyH.nil
      refine step_append_own rfl _ _ 22 rfl w1.heap.size 29 ic zc 5 ic.bytes undNs hic hzc hsz rfl hcz (by decide) _ _ _ rfl HO3.out ⟨b, o, none⟩ m c ((E.take m).flatMap cellsE) (by rfl) (by rw [flatE_len, List.length_take]; congr 1; omega) (fun j u hu => by
          have h := part_cells (HAT.out _ (HB1.out.trans (HB3.out.mono HB1.out.size))) 0 (E.take m) (fun i q hq => take_get hq) j u hu
          rwa [Nat.zero_mul, Nat.add_zero] at h) (oneE fun q hq => HSL.out q (List.mem_of_mem_take hq)) (by unfold maxLen; omega) (Nat.le_trans (Nat.mul_le_mul_right _ (show 0 + (E.length - m) + m ≤ 1024 by omega)) (by rw [Nat.mul_comm]; exact hbc)) HB3.out.size ?_
      intro v2 w4 hown2 hgr2 _
      have HB4 : Hid (Below w1.heap.size w1 w4) := Lib.hid (HB3.out.grown hgr2 HB3.out.size (fun q e => (HO3.out.lt q e).1))
      have HO4 : Hid (w4.ownsRow w1.heap.size 29 5 v2 (E.drop m ++ E.take m).length ((E.drop m ++ E.take m).flatMap cellsE)) := Lib.hid (by
        rw [List.flatMap_append, List.length_append, List.length_drop, List.length_take, Nat.min_eq_left hml]
        skip
        skip
        skip
        simpa using hown2)
      refine hK.out _ _ HB4.out (fun hHeld => ?_)
      clear hK K hown2 hgr2
      try simp only [Act.put, List.setIfInBounds_toArray, List.set_cons_zero, List.set_cons_succ]
      refine' wpAnyH_take (i := 9) (v := _) (by simp only [List.getElem?_toArray, List.getElem?_cons_succ, List.getElem?_cons_zero]; exact rfl) (by kernel_rfl) (by kernel_rfl) (by kernel_rfl) (fun _ _ _ h => h) (Or.inl ⟨by rfl, ?y9x14⟩) hHeld ?r9x14
      case y9x14 => (intro w hSw; (try dsimp only at hSw); go_simp; try with_reducible rfl)
      try simp only [Act.put, List.setIfInBounds_toArray, List.set_cons_zero, List.set_cons_succ]
      refine wpAnyH_done (by kernel_rfl) ?_ _
      refine NoPanic.normal ?_
      go_wp2_with fail
      go_meet
      exact ⟨HO4.out, hHeld⟩

  obtain ⟨hown, hbx⟩ := hcut
  have HO4 := Lib.hid hown
  have HB4 := Lib.hid hbx
  clear hown hbx HE0
  obtain ⟨a2, c2, hsl⟩ := owns_slice HO4.out
  subst hsl
  have HOL : Hid ((E.drop m ++ E.take m).length = E.length) := Lib.hid (by rw [List.length_append, List.length_drop, List.length_take]; omega)
  have HOM : Hid (∀ q, q ∈ E.drop m ++ E.take m ↔ q ∈ E) := Lib.hid fun q => by
    conv => rhs; rw [← List.take_append_drop m E]
    rw [List.mem_append, List.mem_append]
    exact Or.comm
  generalize E.drop m ++ E.take m = O at *
  have hO40 : O.length ≤ 40 := by have := HOL.out; omega
  go_wp2_with fail
  go_loopw [10, 11] (fun tv iv wr => ∃ k : Nat, k ≤ O.length ∧ iv = .int .i64 ((k : Int) - 1) ∧ wr.ownsRow wc.heap.size 29 5 tv (knownE h (O.drop k)).length ((knownE h (O.drop k)).flatMap cellsE) ∧ Below wc.heap.size wc wr) (fun _ iv _ => (intOf iv + 1).toNat)
  case atStart => exact ⟨O.length, Nat.le_refl _, rfl, by rw [List.drop_length]; exact World.ownsRow_nil _ _ _ _, Below.refl _ _⟩
  case round =>
    obtain ⟨k, hk, rfl, hkn, hB⟩ := hrel
    obtain ⟨ak, ckn, hks⟩ := owns_slice hkn
    subst hks
    have HK := Lib.hid hkn
    have HB := Lib.hid hB
    clear hkn hB
    rcases k with _ | j
    · rw [List.drop_zero] at HK
      have hBw := HB1.out.trans ((HB4.out.trans (HB.out.mono HB4.out.size)).mono HB1.out.size)
      have HBw := Lib.hid hBw
      have HO5 := Lib.hid (owns_up HO4.out HB.out)
      have hl100 : (E.map (·.1)).length ≤ 100 := by rw [HLM.out]; omega
      have hadm1 := adm_own (E.map (·.1)) (E.map (·.2)) (some ⟨b, o, none⟩) c h wr (HS.out.below hBw) HI.out HFE.out hl100
      rw [HLM.out] at hadm1
      have HD1 := Lib.hid hadm1
      clear hBw hadm1
      go_wp2_with fail
      refine HD1.out.mono ?_
      rintro e w6 ⟨big1, va, ks1, rfl, hb1, hk1, hm1, ho1, hbe⟩
      have HG1 := Lib.hid hb1
      have HKE1 := Lib.hid hk1
      have HME1 := Lib.hid hm1
      have HA1 := Lib.hid ho1
      have HO6 := Lib.hid (owns_up HO5.out hbe)
      have HK6 := Lib.hid (owns_up HK.out hbe)
      have HB6 := Lib.hid (HBw.out.trans (hbe.mono HBw.out.size))
      have HBC := Lib.hid (HB.out.trans (hbe.mono HB.out.size))
      have hsz6 := hbe.size
      clear hb1 hk1 hm1 ho1 hbe HD1 HO5 HK
      go_wp2_with (at_builtin; refine Hid.out ?_)
      refine Lib.hid ?_
      refine wpList_append_own _ rfl _ _ 22 rfl w1.heap.size 29 ic zc 5 ic.bytes undNs hic hzc hsz rfl hcz (by decide) _ _ _ rfl HO6.out ⟨b, o, none⟩ E.length c (E.flatMap cellsE) rfl (flatE_len E) (fun j u hu => by
        have h := part_cells (HAT.out _ HB6.out) 0 E (fun i q hq => by rw [Nat.zero_add]; exact hq) j u hu
        rwa [Nat.zero_mul, Nat.add_zero] at h) (oneE HSL.out) (by unfold maxLen; omega) (Nat.le_trans (Nat.mul_le_mul_right _ (show O.length + E.length ≤ 1024 by omega)) (by rw [Nat.mul_comm]; exact hbc)) (by have := HB4.out.size; have := HBC.out.size; omega) ?_
      intro v3 w7 hown7 hgr7 _
      have HO7 : Hid (w7.ownsRow w1.heap.size 29 5 v3 (O ++ E).length ((O ++ E).flatMap cellsE)) := Lib.hid (by
        rw [List.length_append, List.flatMap_append]
        exact hown7)
      have HA7 := Lib.hid (HA1.out.kept hgr7 (own_apart HA1.out HO4.out HB.out.size))
      have HK7 := Lib.hid (HK6.out.kept hgr7 (own_apart HK6.out HO4.out (Nat.le_refl _)))
      have HB7 : Hid (Below w.heap.size w w7) := Lib.hid (HB6.out.grown hgr7 HB6.out.size (fun q e => Nat.le_trans HB1.out.size (HO6.out.lt q e).1))
      have HME : Hid (∀ q ∈ O ++ E, q ∈ E) := Lib.hid fun q hq => by
        rcases List.mem_append.1 hq with h1 | h1
        · exact (HOM.out q).1 h1
        · exact h1
      obtain ⟨a7, c7, e7, hS7⟩ := newsS_owns HO7.out (fun q hq => (HR.out q (HME.out q hq)).below (stays_list stays_Span 2) HB7.out)
      rw [List.length_map, List.length_append] at e7
      subst e7
      have HS7 := Lib.hid hS7
      have HMX : Hid (∀ x, x ∈ (O ++ E).map (·.1) ↔ x ∈ E.map (·.1)) := Lib.hid fun x => by
        simp only [List.mem_map]
        exact ⟨fun ⟨q, h1, h2⟩ => ⟨q, HME.out q h1, h2⟩, fun ⟨q, h1, h2⟩ => ⟨q, List.mem_append.2 (Or.inr h1), h2⟩⟩
      have HMK : Hid (∀ x, CountsN h x → (x ∈ E.map (·.1) ↔ x ∈ (knownE h O).map (·.1))) := Lib.hid fun x hc => by
        rw [mem_known hc]
        simp only [List.mem_map]
        exact ⟨fun ⟨q, h1, h2⟩ => ⟨q, (HOM.out q).2 h1, h2⟩, fun ⟨q, h1, h2⟩ => ⟨q, (HOM.out q).1 h1, h2⟩⟩
      have HSUB : Hid (∀ q ∈ knownE h O, q ∈ E) := Lib.hid fun q hq => by
        unfold knownE at hq
        rw [List.mem_filter, List.mem_reverse] at hq
        exact (HOM.out q).1 hq.1
      have hl2 : ((O ++ E).map (·.1)).length ≤ 100 := by rw [List.length_map, List.length_append]; omega
      have hl3 : ((knownE h O).map (·.1)).length ≤ 100 := by
        rw [List.length_map]
        unfold knownE
        refine Nat.le_trans (List.length_filter_le _ _) ?_
        rw [List.length_reverse]
        omega
      have hadm2 := adm_own ((O ++ E).map (·.1)) ((O ++ E).map (·.2)) a7 c7 h w7 HS7.out (fun x hx => HI.out x ((HMX.out x).1 hx)) (fun x hx => HFE.out x ((HMX.out x).1 hx)) hl2
      rw [List.length_map, List.length_append] at hadm2
      have HD2 := Lib.hid hadm2
      clear hadm2
      clear hown7 hgr7 hS7 HA1 HK6 HB6 HO6
      go_wp2_with fail
      refine HD2.out.mono ?_
      rintro e w8 ⟨big2, vb, ks2, rfl, hb2, hk2, hm2, ho2, hbe⟩
      obtain rfl : big2 = big1 := big_unique (fun x hx => HI.out x ((HMX.out x).1 hx)) HI.out (fun x _ => HMX.out x) hb2 HG1.out
      have HKE2 := Lib.hid hk2
      have HME2 := Lib.hid hm2
      have HA8 := Lib.hid (owns_up HA7.out hbe)
      have HK8 := Lib.hid (owns_up HK7.out hbe)
      have HBV8 := Lib.hid ho2
      have HB8 := Lib.hid (HB7.out.trans (hbe.mono HB7.out.size))
      clear hb2 hk2 hm2 ho2 hbe HA7 HK7 HB7 HS7 HO7 HD2
      obtain ⟨a9, c9, e9, hS9⟩ := newsS_owns HK8.out (fun q hq => (HR.out q (HSUB.out q hq)).below (stays_list stays_Span 2) HB8.out)
      simp only [Value.slice.injEq] at e9
      obtain ⟨rfl, -, rfl⟩ := e9
      have hadm3 := adm_own _ _ ak ckn h w8 hS9 (fun x hx => by
        obtain ⟨q, h1, rfl⟩ := List.mem_map.1 hx
        exact HI.out q.1 (List.mem_map.2 ⟨q, HSUB.out q h1, rfl⟩)) (fun x hx => by
        obtain ⟨q, h1, rfl⟩ := List.mem_map.1 hx
        exact HFE.out q.1 (List.mem_map.2 ⟨q, HSUB.out q h1, rfl⟩)) hl3
      rw [List.length_map] at hadm3
      have HD3 := Lib.hid hadm3
      clear hS9 hadm3
      go_wp2_with fail
      refine HD3.out.mono ?_
      rintro e w9 ⟨big3, vc, ks3, rfl, hb3, hk3, hm3, ho3, hbe⟩
      obtain rfl : big3 = big2 := (big_unique HI.out (fun x hx => by
        obtain ⟨q, h1, rfl⟩ := List.mem_map.1 hx
        exact HI.out q.1 (List.mem_map.2 ⟨q, HSUB.out q h1, rfl⟩)) HMK.out HG1.out hb3).symm
      have hB9 := HB8.out.trans (hbe.mono HB8.out.size)
      have HB9 := Lib.hid hB9
      have HRQ : Hid (∀ q ∈ E, LArg (RList RSpan 2) 1 q.2 q.1.cast.rain w9 ∧ I64n q.1) := Lib.hid fun q hq => ⟨(HR.out q hq).below (stays_list stays_Span 2) hB9, (HI.out q.1 (List.mem_map.2 ⟨q, hq, rfl⟩)).1⟩
      have HLA := Lib.hid (larg_casts (owns_up HA8.out hbe) (fun q hq => by obtain ⟨j, h1, h2⟩ := HME1.out q hq; exact HRQ.out q (ent_mem h1 h2)))
      have HLB := Lib.hid (larg_casts (owns_up HBV8.out hbe) (fun q hq => by obtain ⟨j, h1, h2⟩ := HME2.out q hq; exact HRQ.out q (HME.out q (ent_mem h1 h2))))
      have HLC := Lib.hid (larg_casts ho3 (fun q hq => by obtain ⟨j, h1, h2⟩ := hm3 q hq; exact HRQ.out q (HSUB.out q (ent_mem h1 h2))))
      rw [casts_of HKE1.out] at HLA
      rw [casts_of HKE2.out] at HLB
      rw [casts_of hk3] at HLC
      have HCI : Hid (∀ x ∈ (keepN big3).map (·.cast), CastI x ∧ FewC x) := Lib.hid fun x hx => by
        obtain ⟨y, hy, rfl⟩ := List.mem_map.1 hx
        have hyb : y ∈ big3 := (List.mem_filter.1 (List.mem_of_mem_take hy)).1
        have hyx := (HG1.out.mem y hyb).1
        obtain ⟨k1, k2, k3, k4⟩ := (HI.out y hyx).1
        exact ⟨⟨⟨⟨by dsimp only; omega, by dsimp only; omega⟩, ⟨by dsimp only; omega, by dsimp only; omega⟩, k3, k4⟩, (HI.out y hyx).2⟩, HFE.out y hyx⟩
      have hlk : ((keepN big3).map (·.cast)).length ≤ 1000 := by
        rw [List.length_map]
        unfold keepN
        rw [List.length_take]
        have := Nat.min_le_left 32 (big3.filter fun x => decide (x.kind ≠ 2)).length
        omega
      clear hb3 hk3 hm3 ho3 hbe hB9 HD3 HA8 HBV8 HK8
      go_wp2_with fail
      refine (sameAll_any _ _ _ _ HLA.out HLB.out (fun x hx => (HCI.out x hx).1) (fun x hx => (HCI.out x hx).2) hlk).mono ?_
      rintro e w10 ⟨rfl, hbe⟩
      have HLA2 := Lib.hid (HLA.out.below stays_Cast hbe)
      have HLC2 := Lib.hid (HLC.out.below stays_Cast hbe)
      have HB10 := Lib.hid (HB9.out.trans (hbe.mono HB9.out.size))
      clear hbe HLA HLB HLC HB9
      go_wp2_with fail
      refine (sameAll_any _ _ _ _ HLA2.out HLC2.out (fun x hx => (HCI.out x hx).1) (fun x hx => (HCI.out x hx).2) hlk).mono ?_
      rintro e w11 ⟨rfl, hbe⟩
      have HB11 := Lib.hid (HB10.out.trans (hbe.mono HB10.out.size))
      clear hbe HLA2 HLC2 HB10
      go_wp2_with fail
      go_ret
      exact ⟨rfl, HB11.out⟩
    · have ej : (((j + 1 : Nat) : Int) - 1) = (j : Int) := by omega
      rw [ej]
      obtain ⟨q, hq⟩ : ∃ q, O[j]? = some q := ⟨_, List.getElem?_eq_getElem (by omega)⟩
      have HQ := Lib.hid hq
      have HKS := Lib.hid (known_step (h := h) hq)
      obtain ⟨qa, qn, qc, hq2⟩ := HSL.out q ((HOM.out q).1 (List.mem_of_getElem? hq))
      obtain ⟨a3, c3, e3, hat3⟩ := ownsE_at (owns_up HO4.out HB.out)
      simp only [Value.slice.injEq, true_and] at e3
      obtain ⟨rfl, rfl⟩ := e3
      obtain ⟨g, rfl, hg1, hg2, hrg⟩ := hat3 j q hq
      obtain ⟨x, u⟩ := q
      simp only at hq2
      subst hq2
      rw [Nat.zero_add] at hrg
      unfold cellsE cellsN at hrg
      have ck := hrg 1 _ rfl
      have hj0 : (0 : Int) ≤ (j : Int) := by omega
      have hjl : (j : Int) < (O.length : Int) := by omega
      have HRG := Lib.hid hrg
      clear hrg hat3 hq ej
      by_cases hkh : x.known ≤ h
      · have HN := Lib.hid (heap_alloc_new wr (.cells #[.int .i64 x.kind, .int .i64 x.known, .int .i64 x.cast.id, .int .i64 x.cast.src, .slice qa qn qc] 29))
        have HK2 := Lib.hid (HK.out.alloc (.cells #[.int .i64 x.kind, .int .i64 x.known, .int .i64 x.cast.id, .int .i64 x.cast.src, .slice qa qn qc] 29))
        have HB2 := Lib.hid (HB.out.alloc HB.out.size (.cells #[.int .i64 x.kind, .int .i64 x.known, .int .i64 x.cast.id, .int .i64 x.cast.src, .slice qa qn qc] 29))
        have hnew : ∀ i v, (cellsE (x, .slice qa qn qc))[i]? = some v → (wr.alloc (.cells #[.int .i64 x.kind, .int .i64 x.known, .int .i64 x.cast.id, .int .i64 x.cast.src, .slice qa qn qc] 29)).cell? ((⟨wr.heap.size, 0, none⟩ : Addr).add i) = some v := fun i v hi => by
          rw [Addr.add_mid, Nat.zero_add, cell_of_row _ _ _ _ _ _ HN.out, ← Array.getElem?_toList]
          exact hi
        have hkl : (knownE h (O.drop (j + 1))).length ≤ 40 := by
          unfold knownE
          refine Nat.le_trans (List.length_filter_le _ _) ?_
          rw [List.length_reverse, List.length_drop]
          omega
        go_wp2_with (first | (refine wpList_load_range (by first | (go_simp; done) | rfl) 29 _ rfl _ _ rfl _ _ HRG.out undNw rfl infoNw ?_) | (at_builtin; refine Hid.out ?_))
        refine Lib.hid ?_
        refine wpList_append_own _ rfl _ _ 22 rfl wc.heap.size 29 ic zc 5 ic.bytes undNs hic hzc hsz rfl hcz (by decide) _ _ _ rfl HK2.out ⟨wr.heap.size, 0, none⟩ 1 1 (cellsE (x, .slice qa qn qc)) rfl rfl hnew (by unfold cellsE cellsN; simp [Value.oneCell']) (by unfold maxLen; omega) (Nat.le_trans (Nat.mul_le_mul_right _ (show (knownE h (O.drop (j + 1))).length + 1 ≤ 1024 by omega)) (by rw [Nat.mul_comm]; exact hbc)) HB2.out.size ?_
        intro v' w5 hown5 hgr5 _
        have HK5 : Hid (w5.ownsRow wc.heap.size 29 5 v' (knownE h (O.drop j)).length ((knownE h (O.drop j)).flatMap cellsE)) := Lib.hid (by
          rw [HKS.out, if_pos hkh, List.length_append, List.flatMap_append]
          simpa using hown5)
        have HB5 : Hid (Below wc.heap.size wc w5) := Lib.hid (HB2.out.grown hgr5 HB2.out.size (fun q e => (HK2.out.lt q e).1))
        clear hown5 hgr5 hnew HN HK2 HB2 ck
        go_wp2_with fail
        go_roundw
        case rel => exact ⟨j, by omega, rfl, HK5.out, HB5.out⟩
        case measure => simp [intOf]
      · have HK5 : Hid (wr.ownsRow wc.heap.size 29 5 (.slice ak (knownE h (O.drop (j + 1))).length ckn) (knownE h (O.drop j)).length ((knownE h (O.drop j)).flatMap cellsE)) := Lib.hid (by
          rw [HKS.out, if_neg hkh, List.append_nil]
          exact HK.out)
        go_wp2_with fail
        go_roundw
        case rel => exact ⟨j, by omega, rfl, HK5.out, HB.out⟩
        case measure => simp [intOf]
end Go.Proofs.Ytleiiedacachjaa
