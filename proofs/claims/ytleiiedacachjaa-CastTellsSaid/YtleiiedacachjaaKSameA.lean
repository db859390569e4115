/- bourneref29.Same and SameAll, where the forecasts are equal. -/
import Derived.Test.YtleiiedacachjaaKRefB
import Derived.Test.YtleiiedacachjaaKRight
import Derived.Test.YtleiiedacachjaaKNews
namespace Go.Proofs.Ytleiiedacachjaa
open Go.RowKit
def CastI (x : CastV) : Prop := NewsI ⟨0, 0, x⟩
def FewC (x : CastV) : Prop := x.rain.length ≤ 30 ∧ ∀ r ∈ x.rain, r.length ≤ 70
theorem range_three {w : World} {b k : Nat} {x y z : Value} (h1 : w.cell? ⟨b, k, none⟩ = some x) (h2 : w.cell? ⟨b, k + 1, none⟩ = some y) (h3 : w.cell? ⟨b, k + 2, none⟩ = some z) : w.rangeAt b k [x, y, z] := fun j v hv => by
  rcases j with _ | _ | _ | j
  · cases hv; exact h1
  · cases hv; exact h2
  · cases hv; exact h3
  · exact absurd hv (by simp)
set_option maxRecDepth 100000 in
set_option maxHeartbeats 4000000 in
theorem same_any (x : CastV) (v0 v1 : Value) (w : World) (h0 : LArg (RList RSpan 2) 1 v0 x.rain w) (h1 : LArg (RList RSpan 2) 1 v1 x.rain w) (hN : CastI x) (hF : FewC x) :
    Calls Try.prog 23 #[.agg #[.int .i64 x.id, .int .i64 x.src, v0], .agg #[.int .i64 x.id, .int .i64 x.src, v1]] w fun e w' => e = .returned (.bool true) ∧ Below w.heap.size w w' := by
  obtain ⟨a0, q0, rfl, -, -⟩ := h0.slice
  obtain ⟨a1, q1, rfl, -, -⟩ := h1.slice
  obtain ⟨r0, r1, rb⟩ := two_rowsK (w := w) (A := .cells #[.int .i64 x.id, .int .i64 x.src, .slice a0 x.rain.length q0] 27) (B := .cells #[.int .i64 x.id, .int .i64 x.src, .slice a1 x.rain.length q1] 27)
  have HR0 := Lib.hid h0
  have HR1 := Lib.hid h1
  have HN := Lib.hid hN
  have HF := Lib.hid hF
  clear h0 h1 hN hF
  go_enter Try.func23, Try.ntmps23
  go_upto_region 1 with fail
  generalize (w.alloc (.cells #[.int .i64 x.id, .int .i64 x.src, .slice a0 x.rain.length q0] 27)).alloc (.cells #[.int .i64 x.id, .int .i64 x.src, .slice a1 x.rain.length q1] 27) = w0 at *
  have HA := Lib.hid r0
  have HC := Lib.hid r1
  have HB0 := Lib.hid rb
  clear r0 r1 rb
  refine wp_region_noPanic ?_
  refine wp_region_held_drew (S := fun w' => Below w0.heap.size w0 w') (by kernel_rfl) (Below.refl _ _).drew (fun hHeld => ?_)
  refine' wpAnyH_take (i := 0) (v := _) (by simp only [List.getElem?_toArray, List.getElem?_cons_zero]; exact rfl) (by kernel_rfl) (by kernel_rfl) (by kernel_rfl) (fun _ _ _ h => h) (Or.inl ⟨by rfl, ?y0x1⟩) hHeld ?r0x1
  case y0x1 => (intro wz hSw; refine exec_load_row 27 ?_ ?_ _ ?_ 27 _ _ _ (blk_below HA.out hSw (blk_lt HA.out)) undKs rfl infoKs; rotate_left 1; exact rfl; exact rfl)
  try simp only [Act.put, List.setIfInBounds_toArray, List.set_cons_zero, List.set_cons_succ]
  refine' wpAnyH_take (i := 1) (v := _) (by simp only [List.getElem?_toArray, List.getElem?_cons_succ, List.getElem?_cons_zero]; exact rfl) (by kernel_rfl) (by kernel_rfl) (by kernel_rfl) (fun _ _ _ h => h) (Or.inl ⟨by rfl, ?y1x2⟩) hHeld ?r1x2
  case y1x2 => (intro w hSw; (try dsimp only at hSw); go_simp; try with_reducible rfl)
  try simp only [Act.put, List.setIfInBounds_toArray, List.set_cons_zero, List.set_cons_succ]
  refine' wpAnyH_take (i := 3) (v := _) (by simp only [List.getElem?_toArray, List.getElem?_cons_succ, List.getElem?_cons_zero]; exact rfl) (by kernel_rfl) (by kernel_rfl) (by kernel_rfl) (fun _ _ _ h => h) (Or.inl ⟨by rfl, ?y3x3⟩) hHeld ?r3x3
  case y3x3 => (intro wz hSw; refine exec_load_row 27 ?_ ?_ _ ?_ 27 _ _ _ (blk_below HC.out hSw (blk_lt HC.out)) undKs rfl infoKs; rotate_left 1; exact rfl; exact rfl)
  try simp only [Act.put, List.setIfInBounds_toArray, List.set_cons_zero, List.set_cons_succ]
  refine' wpAnyH_take (i := 4) (v := _) (by simp only [List.getElem?_toArray, List.getElem?_cons_succ, List.getElem?_cons_zero]; exact rfl) (by kernel_rfl) (by kernel_rfl) (by kernel_rfl) (fun _ _ _ h => h) (Or.inl ⟨by rfl, ?y4x4⟩) hHeld ?r4x4
  case y4x4 => (intro w hSw; (try dsimp only at hSw); go_simp; try with_reducible rfl)
  try simp only [Act.put, List.setIfInBounds_toArray, List.set_cons_zero, List.set_cons_succ]
  refine wpAnyH_ready (rs := [2]) (by kernel_rfl) (by simp) ?_
  refine AllReadyH.cons (by simp only [List.getElem?_toArray, List.getElem?_cons_succ, List.getElem?_cons_zero]; exact rfl) (fun K hK => ?_) AllReadyH.nil
  go_simp
  refine (rbytes_any ⟨0, 0, x⟩ (.slice a0 x.rain.length q0) _ ((HR0.out.below (stays_list stays_Span 2) HB0.out).below (stays_list stays_Span 2) hHeld) HN.out.1 HN.out.2 HF.out.1 HF.out.2).mono ?_
  rintro e w' ⟨rfl, hb⟩
  refine hK.out _ _ (hHeld.trans (hb.mono hHeld.size)) (fun hHeld => ?_)
  clear hK K hb
  try simp only [Act.put, List.setIfInBounds_toArray, List.set_cons_zero, List.set_cons_succ]
  refine wpAnyH_ready (rs := [5]) (by kernel_rfl) (by simp) ?_
  refine AllReadyH.cons (by simp only [List.getElem?_toArray, List.getElem?_cons_succ, List.getElem?_cons_zero]; exact rfl) (fun K hK => ?_) AllReadyH.nil
  go_simp
  refine (rbytes_any ⟨0, 0, x⟩ (.slice a1 x.rain.length q1) _ ((HR1.out.below (stays_list stays_Span 2) HB0.out).below (stays_list stays_Span 2) hHeld) HN.out.1 HN.out.2 HF.out.1 HF.out.2).mono ?_
  rintro e w' ⟨rfl, hb⟩
  refine hK.out _ _ (hHeld.trans (hb.mono hHeld.size)) (fun hHeld => ?_)
  clear hK K hb
  try simp only [Act.put, List.setIfInBounds_toArray, List.set_cons_zero, List.set_cons_succ]
  refine' wpAnyH_take (i := 6) (v := _) (by simp only [List.getElem?_toArray, List.getElem?_cons_succ, List.getElem?_cons_zero]; exact rfl) (by kernel_rfl) (by kernel_rfl) (by kernel_rfl) (fun _ _ _ h => h) (Or.inl ⟨by rfl, ?y6x5⟩) hHeld ?r6x5
  case y6x5 => (intro w hSw; (try dsimp only at hSw); go_simp; try with_reducible rfl)
  try simp only [Act.put, List.setIfInBounds_toArray, List.set_cons_zero, List.set_cons_succ]
  refine' wpAnyH_take (i := 7) (v := _) (by simp only [List.getElem?_toArray, List.getElem?_cons_succ, List.getElem?_cons_zero]; exact rfl) (by kernel_rfl) (by kernel_rfl) (by kernel_rfl) (fun _ _ _ h => h) (Or.inl ⟨by rfl, ?y7x6⟩) hHeld ?r7x6
  case y7x6 => (intro w hSw; (try dsimp only at hSw); go_simp; try with_reducible rfl)
  try simp only [Act.put, List.setIfInBounds_toArray, List.set_cons_zero, List.set_cons_succ]
  refine wpAnyH_done (by kernel_rfl) ?_ _
  refine NoPanic.normal ?_
  have HBF := Lib.hid (HB0.out.trans (hHeld.mono HB0.out.size))
  go_wp2_with fail
  go_ret
  exact ⟨rfl, HBF.out⟩
set_option maxRecDepth 100000 in
set_option maxHeartbeats 4000000 in
theorem sameAll_any (l : List CastV) (va vb : Value) (w : World) (ha : LArg RCast 3 va l w) (hb : LArg RCast 3 vb l w) (hN : ∀ x ∈ l, CastI x) (hF : ∀ x ∈ l, FewC x) (hl : l.length ≤ 1000) :
    Calls Try.prog 12 #[va, vb] w fun e w' => e = .returned (.bool true) ∧ Below w.heap.size w w' := by
  obtain ⟨pa, ca, rfl, -, -⟩ := ha.slice
  obtain ⟨pb, cb, rfl, -, -⟩ := hb.slice
  have HLA := Lib.hid ha
  have HLB := Lib.hid hb
  have HN := Lib.hid hN
  have HF := Lib.hid hF
  clear ha hb hN hF
  go_enter Try.func12, Try.ntmps12
  go_wp2_with fail
  go_loopw [5] (fun iv wr => ∃ k : Nat, k ≤ l.length ∧ iv = .int .i64 k ∧ Below w.heap.size w wr) (fun iv _ => l.length - (intOf iv).toNat)
  case atStart => exact ⟨0, Nat.zero_le _, rfl, Below.refl _ _⟩
  case round =>
    obtain ⟨k, hk, rfl, hB⟩ := hrel
    have HB := Lib.hid hB
    clear hB
    by_cases hlt : k < l.length
    · obtain ⟨x, hx⟩ : ∃ x, l[k]? = some x := ⟨_, List.getElem?_eq_getElem hlt⟩
      obtain ⟨g, o, cs, ha, hgl, -, hrg, u, rfl, -, -, hu⟩ := (HLA.out.below stays_Cast HB.out).at hx
      subst ha
      obtain ⟨g1, o1, cs1, ha1, hgl1, -, hrg1, u1, rfl, -, -, hu1⟩ := (HLB.out.below stays_Cast HB.out).at hx
      subst ha1
      obtain ⟨a0, q0, rfl, -, -⟩ := hu.slice
      obtain ⟨a1, q1, rfl, -, -⟩ := hu1.slice
      have HG := Lib.hid hrg
      have HH := Lib.hid hrg1
      have HGL := Lib.hid hgl
      have HHL := Lib.hid hgl1
      have HU0 := Lib.hid hu
      have HU1 := Lib.hid hu1
      have HNX := Lib.hid (HN.out x (List.mem_of_getElem? hx))
      have HFX := Lib.hid (HF.out x (List.mem_of_getElem? hx))
      have hlt' : (k : Int) < (l.length : Int) := by omega
      clear hrg hrg1 hgl hgl1 hu hu1 hx
      go_upto_region 6 with fail
      refine wp_region_noPanic ?_
      refine wp_region_held_drew (S := fun w' => Below wr.heap.size wr w') (by kernel_rfl) (Below.refl _ _).drew (fun hHeld => ?_)
      refine' wpAnyH_take (i := 0) (v := _) (by simp only [List.getElem?_toArray, List.getElem?_cons_zero]; exact rfl) (by kernel_rfl) (by kernel_rfl) (by kernel_rfl) (fun _ _ _ h => h) (Or.inl ⟨by rfl, ?y0x7⟩) hHeld ?r0x7
      case y0x7 => (intro w hSw; (try dsimp only at hSw); go_simp; try with_reducible rfl)
      try simp only [Act.put, List.setIfInBounds_toArray, List.set_cons_zero, List.set_cons_succ]
      refine' wpAnyH_take (i := 1) (v := _) (by simp only [List.getElem?_toArray, List.getElem?_cons_succ, List.getElem?_cons_zero]; exact rfl) (by kernel_rfl) (by kernel_rfl) (by kernel_rfl) (fun _ _ _ h => h) (Or.inl ⟨by rfl, ?y1x8⟩) hHeld ?r1x8
      case y1x8 => (intro w hSw; (try dsimp only at hSw); go_simp; try with_reducible rfl)
      try simp only [Act.put, List.setIfInBounds_toArray, List.set_cons_zero, List.set_cons_succ]
      refine' wpAnyH_take (i := 2) (v := _) (by simp only [List.getElem?_toArray, List.getElem?_cons_succ, List.getElem?_cons_zero]; exact rfl) (by kernel_rfl) (by kernel_rfl) (by kernel_rfl) (fun _ _ _ h => h) (Or.inl ⟨by rfl, ?y2x9⟩) hHeld ?r2x9
      case y2x9 => (intro w hSw; (try dsimp only at hSw); go_simp; try with_reducible rfl)
      try simp only [Act.put, List.setIfInBounds_toArray, List.set_cons_zero, List.set_cons_succ]
      refine' wpAnyH_take (i := 3) (v := _) (by simp only [List.getElem?_toArray, List.getElem?_cons_succ, List.getElem?_cons_zero]; exact rfl) (by kernel_rfl) (by kernel_rfl) (by kernel_rfl) (fun _ _ _ h => h) (Or.inl ⟨by rfl, ?y3x10⟩) hHeld ?r3x10
      case y3x10 => (intro wz hSw; refine exec_load_range 27 ?_ ?_ _ _ ?_ _ _ (range_below HG.out hSw HGL.out) undKs rfl infoKs; rotate_left 1; exact rfl; exact rfl)
      try simp only [Act.put, List.setIfInBounds_toArray, List.set_cons_zero, List.set_cons_succ]
      refine' wpAnyH_take (i := 4) (v := _) (by simp only [List.getElem?_toArray, List.getElem?_cons_succ, List.getElem?_cons_zero]; exact rfl) (by kernel_rfl) (by kernel_rfl) (by kernel_rfl) (fun _ _ _ h => h) (Or.inl ⟨by rfl, ?y4x11⟩) hHeld ?r4x11
      case y4x11 => (intro w hSw; (try dsimp only at hSw); go_simp; try with_reducible rfl)
      try simp only [Act.put, List.setIfInBounds_toArray, List.set_cons_zero, List.set_cons_succ]
      refine' wpAnyH_take (i := 5) (v := _) (by simp only [List.getElem?_toArray, List.getElem?_cons_succ, List.getElem?_cons_zero]; exact rfl) (by kernel_rfl) (by kernel_rfl) (by kernel_rfl) (fun _ _ _ h => h) (Or.inl ⟨by rfl, ?y5x12⟩) hHeld ?r5x12
      case y5x12 => (intro w hSw; (try dsimp only at hSw); go_simp; try with_reducible rfl)
      try simp only [Act.put, List.setIfInBounds_toArray, List.set_cons_zero, List.set_cons_succ]
      refine' wpAnyH_take (i := 6) (v := _) (by simp only [List.getElem?_toArray, List.getElem?_cons_succ, List.getElem?_cons_zero]; exact rfl) (by kernel_rfl) (by kernel_rfl) (by kernel_rfl) (fun _ _ _ h => h) (Or.inl ⟨by rfl, ?y6x13⟩) hHeld ?r6x13
      case y6x13 => (intro w hSw; (try dsimp only at hSw); go_simp; try with_reducible rfl)
      try simp only [Act.put, List.setIfInBounds_toArray, List.set_cons_zero, List.set_cons_succ]
      refine' wpAnyH_take (i := 7) (v := _) (by simp only [List.getElem?_toArray, List.getElem?_cons_succ, List.getElem?_cons_zero]; exact rfl) (by kernel_rfl) (by kernel_rfl) (by kernel_rfl) (fun _ _ _ h => h) (Or.inl ⟨by rfl, ?y7x14⟩) hHeld ?r7x14
      case y7x14 => (intro wz hSw; refine exec_load_range 27 ?_ ?_ _ _ ?_ _ _ (range_below HH.out hSw HHL.out) undKs rfl infoKs; rotate_left 1; exact rfl; exact rfl)
      try simp only [Act.put, List.setIfInBounds_toArray, List.set_cons_zero, List.set_cons_succ]
      refine wpAnyH_ready (rs := [8]) (by kernel_rfl) (by simp) ?_
      refine AllReadyH.cons (by simp only [List.getElem?_toArray, List.getElem?_cons_succ, List.getElem?_cons_zero]; exact rfl) (fun K hK => ?_) AllReadyH.nil
      go_simp
      refine (same_any x (.slice a0 x.rain.length q0) (.slice a1 x.rain.length q1) _ (HU0.out.below (stays_list stays_Span 2) hHeld) (HU1.out.below (stays_list stays_Span 2) hHeld) HNX.out HFX.out).mono ?_
      rintro e w' ⟨rfl, hb⟩
      refine hK.out _ _ (hHeld.trans (hb.mono hHeld.size)) (fun hHeld => ?_)
      clear hK K hb
      try simp only [Act.put, List.setIfInBounds_toArray, List.set_cons_zero, List.set_cons_succ]
      refine' wpAnyH_take (i := 9) (v := _) (by simp only [List.getElem?_toArray, List.getElem?_cons_succ, List.getElem?_cons_zero]; exact rfl) (by kernel_rfl) (by kernel_rfl) (by kernel_rfl) (fun _ _ _ h => h) (Or.inl ⟨by rfl, ?y9x15⟩) hHeld ?r9x15
      case y9x15 => (intro w hSw; (try dsimp only at hSw); go_simp; try with_reducible rfl)
      try simp only [Act.put, List.setIfInBounds_toArray, List.set_cons_zero, List.set_cons_succ]
      refine wpAnyH_done (by kernel_rfl) ?_ _
      refine NoPanic.normal ?_
      have HBn := Lib.hid (HB.out.trans (hHeld.mono HB.out.size))
      go_wp2_with fail
      go_roundw
      case rel => exact ⟨k + 1, by omega, by go_num, HBn.out⟩
      case measure => simp [intOf]; omega
    · obtain rfl : k = l.length := by omega
      have hlt' : ¬ (l.length : Int) < (l.length : Int) := by omega
      clear hlt hk
      go_wp2_with fail
      go_ret
      exact ⟨rfl, HB.out⟩
end Go.Proofs.Ytleiiedacachjaa
