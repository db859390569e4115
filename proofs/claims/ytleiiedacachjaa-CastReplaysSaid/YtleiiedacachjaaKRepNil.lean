/- bournelaw29.CastReplays returns true, at an empty list of news. -/
import Derived.Test.YtleiiedacachjaaKRep
namespace Go.Proofs.Ytleiiedacachjaa
open Go.RowKit
theorem run_append_zero {P : Program} {w : World} {t ty e : TypeId} {i : TypeInfo} (ht : P.underlying t = some (.slice e)) (hi : P.info? e = some i) (b b2 : Option Addr) (n c c2 : Nat) (hn : n ≤ c) :
    (Builtin.append_ #[t, t] ty #[.slice b n c, .slice b2 0 c2]).run P w = .ok (.slice b n c) w := by
  cases b <;> cases b2 <;> simp [Builtin.append_, run_underlying ht, sizeOf, typeInfo, hi, Builtin.lenOf, Builtin.firstCells, loadCells, loadCellsFrom, storeCells, hn]
theorem wpList_append_zero {P : Program} {w : World} {ops : Array Oper} {rest : List Oper} {o : Oper} {a : Act} {Q : Exit → Act → World → Prop} (hgd : o.guard = none) (s x : Operand) (t : TypeId)
    (ho : o.op = .call { callee := .builtin .append, args := #[s, x], argTypes := #[t, t] })
    (e : TypeId) (i : TypeInfo) (ht : P.underlying t = some (.slice e)) (hi : P.info? e = some i)
    (b : Option Addr) (n c : Nat) (hs : a.eval s = .slice b n c) (b2 : Option Addr) (c2 : Nat) (hx : a.eval x = .slice b2 0 c2) (hn : n ≤ c)
    (h : wpList P ops Q rest (a.put o.dst (.slice b n c)) w) : wpList P ops Q (o :: rest) a w := by
  refine wpList_plain hgd fun K hK => ?_
  unfold Oper.wp execOp
  simp only [ho, resolve, invoke, builtin, Sem.run_bind, Sem.run_pure, Result.andThen_ok, List.map_toArray, List.map_cons, List.map_nil, hs, hx, run_append_zero ht hi b b2 n c c2 hn]
  exact hK _ _ h
theorem step_append_zero {P : Program} {ops : Array Oper} {o : Oper} {a : Act} {w : World} {K : Act → World → Prop} {Q : Exit → Act → World → Prop} {E : Prop} (hgd : o.guard = none) (s x : Operand) (t : TypeId)
    (ho : o.op = .call { callee := .builtin .append, args := #[s, x], argTypes := #[t, t] })
    (e : TypeId) (i : TypeInfo) (ht : P.underlying t = some (.slice e)) (hi : P.info? e = some i)
    (b : Option Addr) (n c : Nat) (hs : a.eval s = .slice b n c) (b2 : Option Addr) (c2 : Nat) (hx : a.eval x = .slice b2 0 c2) (hn : n ≤ c)
    (h : K (a.put o.dst (.slice b n c)) w) :
    if Region.wanted o (yielded ops a.tmps) = true then Oper.wp P o a w K Q else E := by
  have hw : Region.wanted o (yielded ops a.tmps) = true := by simp [Region.wanted, hgd]
  rw [if_pos hw]
  unfold Oper.wp execOp
  simp only [ho, resolve, invoke, builtin, Sem.run_bind, Sem.run_pure, Result.andThen_ok, List.map_toArray, List.map_cons, List.map_nil, hs, hx, run_append_zero ht hi b b2 n c c2 hn]
  exact h
theorem nil_news (a : Option Addr) (w : World) : NewsS [] [] a w := ⟨rfl, fun i x hx => by simp at hx⟩
theorem big_nil {h : Int} {big : List NewsV} (hb : IsBig h [] big) : big = [] := by
  cases big with
  | nil => rfl
  | cons x r => exact absurd (hb.mem x (List.mem_cons_self ..)).1 (by simp)
set_option maxRecDepth 100000 in
set_option maxHeartbeats 8000000 in
theorem replays_nil  (n h : Int) (w : World) :
    Calls Try.prog 3 #[.slice none 0 0, .int .i64 n, .int .i64 h] w fun e w' => e = .returned (.bool true) ∧ Below w.heap.size w w' := by
  obtain ⟨ic, zc, hic, hsz, hzc, hcz, hbc⟩ := infoNe
  go_enter Try.func3, Try.ntmps3
  go_wp2_with fail
  refine (small_any _).mono ?_
  rintro e w0 ⟨rfl, hb⟩
  have HB0 := Lib.hid hb
  clear hb
  go_wp2_with fail
  refine (few_any [] [] none 0 w0 (nil_news _ _) (Nat.zero_le _)).mono ?_
  rintro e w1 ⟨rfl, hb⟩
  have HB1 := Lib.hid (HB0.out.trans (hb.mono HB0.out.size))
  clear hb HB0
  rw [fewB_yes (xs := []) ⟨Nat.zero_le _, fun x hx => by cases hx⟩]
  by_cases t1 : n < 0
  · go_wp2_with fail
    go_ret
    exact ⟨rfl, HB1.out⟩
  by_cases t2 : 0 < n
  · go_wp2_with fail
    go_ret
    exact ⟨rfl, HB1.out⟩
  obtain rfl : n = 0 := by omega
  clear t1 t2
  go_upto_region 5 with fail
  go_cut [9] (fun s9 wx => s9 = (.slice (some ⟨w1.heap.size, 0, none⟩) 0 0) ∧ Below w1.heap.size w1 wx)
  case first =>
    refine wp_region_noPanic ?_
    refine wp_region_held_drew (S := fun w' => Below w1.heap.size w1 w') (by kernel_rfl) (Below.refl _ _).drew (fun hHeld => ?_)
    refine' wpAnyH_take (i := 1) (v := _) (by simp only [List.getElem?_toArray, List.getElem?_cons_succ, List.getElem?_cons_zero]; exact rfl) (by kernel_rfl) (by kernel_rfl) (by kernel_rfl) (fun _ _ _ h => h) (Or.inl ⟨by rfl, ?y1x1⟩) hHeld ?r1x1
    case y1x1 => (intro w hSw; (try dsimp only at hSw); go_simp; try with_reducible rfl)
    try simp only [Act.put, List.setIfInBounds_toArray, List.set_cons_zero, List.set_cons_succ]
    refine' wpAnyH_take (i := 2) (v := _) (by simp only [List.getElem?_toArray, List.getElem?_cons_succ, List.getElem?_cons_zero]; exact rfl) (by kernel_rfl) (by kernel_rfl) (by kernel_rfl) (fun _ _ _ h => h) (Or.inl ⟨by rfl, ?y2x2⟩) hHeld ?r2x2
    case y2x2 => (intro w hSw; (try dsimp only at hSw); go_simp; try with_reducible rfl)
    try simp only [Act.put, List.setIfInBounds_toArray, List.set_cons_zero, List.set_cons_succ]
    refine' wpAnyH_take (i := 3) (v := _) (by simp only [List.getElem?_toArray, List.getElem?_cons_succ, List.getElem?_cons_zero]; exact rfl) (by kernel_rfl) (by kernel_rfl) (by kernel_rfl) (fun _ _ _ h => h) (Or.inl ⟨by rfl, ?y3x3⟩) hHeld ?r3x3
    case y3x3 => (intro w hSw; (try dsimp only at hSw); go_simp; try with_reducible rfl)
    try simp only [Act.put, List.setIfInBounds_toArray, List.set_cons_zero, List.set_cons_succ]
    refine' wpAnyH_take (i := 5) (v := _) (by simp only [List.getElem?_toArray, List.getElem?_cons_succ, List.getElem?_cons_zero]; exact rfl) (by kernel_rfl) (by kernel_rfl) (by kernel_rfl) (fun _ _ _ h => h) (Or.inl ⟨by rfl, ?y5x4⟩) hHeld ?r5x4
    case y5x4 => (intro w hSw; (try dsimp only at hSw); go_simp; try with_reducible rfl)
    try simp only [Act.put, List.setIfInBounds_toArray, List.set_cons_zero, List.set_cons_succ]
    refine' wpAnyH_take (i := 6) (v := _) (by simp only [List.getElem?_toArray, List.getElem?_cons_succ, List.getElem?_cons_zero]; exact rfl) (by kernel_rfl) (by kernel_rfl) (by kernel_rfl) (fun _ _ _ h => h) (Or.inl ⟨by rfl, ?y6x5⟩) hHeld ?r6x5
    case y6x5 => (intro w hSw; (try dsimp only at hSw); go_simp; try with_reducible rfl)
    try simp only [Act.put, List.setIfInBounds_toArray, List.set_cons_zero, List.set_cons_succ]
    refine' wpAnyH_take (i := 7) (v := _) (by simp only [List.getElem?_toArray, List.getElem?_cons_succ, List.getElem?_cons_zero]; exact rfl) (by kernel_rfl) (by kernel_rfl) (by kernel_rfl) (fun _ _ _ h => h) (Or.inl ⟨by rfl, ?y7x6⟩) hHeld ?r7x6
    case y7x6 => (intro w hSw; (try dsimp only at hSw); go_simp; try with_reducible rfl)
    try simp only [Act.put, List.setIfInBounds_toArray, List.set_cons_zero, List.set_cons_succ]
    refine wpAnyH_ready (rs := [0]) (by kernel_rfl) (by simp) ?_
    refine AllReadyH.cons (by simp only [List.getElem?_toArray, List.getElem?_cons_zero]; exact rfl) (fun K hK => ?_) AllReadyH.nil
    go_simp
    refine hK.out _ _ ((Below.refl w1.heap.size w1).alloc (Nat.le_refl _) (.cells #[] 29)).drew (fun hHeld => ?_)
    clear hK K
    try simp only [Act.put, List.setIfInBounds_toArray, List.set_cons_zero, List.set_cons_succ]
    refine wpAnyH_ready (rs := [4]) (by kernel_rfl) (by simp) ?_
    refine AllReadyH.cons (by simp only [List.getElem?_toArray, List.getElem?_cons_succ, List.getElem?_cons_zero]; exact rfl) (fun K hK => ?_) AllReadyH.nil
    refine step_append_zero rfl _ _ 22 rfl 29 ic undNs hic _ 0 0 rfl _ _ (by rfl) (Nat.le_refl _) ?_
    refine hK.out _ _ hHeld (fun hHeld => ?_)
    clear hK K
    try simp only [Act.put, List.setIfInBounds_toArray, List.set_cons_zero, List.set_cons_succ]
    refine wpAnyH_ready (rs := [8]) (by kernel_rfl) (by simp) ?_
    refine AllReadyH.cons (by simp only [List.getElem?_toArray, List.getElem?_cons_succ, List.getElem?_cons_zero]; exact rfl) (fun K hK => ?_) AllReadyH.nil
    refine step_append_zero rfl _ _ 22 rfl 29 ic undNs hic _ 0 0 rfl _ _ (by rfl) (Nat.le_refl _) ?_
    refine hK.out _ _ hHeld (fun hHeld => ?_)
    clear hK K
    try simp only [Act.put, List.setIfInBounds_toArray, List.set_cons_zero, List.set_cons_succ]
    refine' wpAnyH_take (i := 9) (v := _) (by simp only [List.getElem?_toArray, List.getElem?_cons_succ, List.getElem?_cons_zero]; exact rfl) (by kernel_rfl) (by kernel_rfl) (by kernel_rfl) (fun _ _ _ h => h) (Or.inl ⟨by rfl, ?y9x7⟩) hHeld ?r9x7
    case y9x7 => (intro w hSw; (try dsimp only at hSw); go_simp; try with_reducible rfl)
    try simp only [Act.put, List.setIfInBounds_toArray, List.set_cons_zero, List.set_cons_succ]
    refine wpAnyH_done (by kernel_rfl) ?_ _
    refine NoPanic.normal ?_
    go_wp2_with fail
    go_meet
    exact ⟨rfl, hHeld⟩

  obtain ⟨rfl, hbx⟩ := hcut
  have HB2 := Lib.hid (HB1.out.trans (hbx.mono HB1.out.size))
  clear hbx
  go_wp2_with fail
  go_loopw [10, 11] (fun tv iv wr => tv = .slice none 0 0 ∧ iv = .int .i64 (-1) ∧ wr = wc) (fun _ iv _ => (intOf iv + 1).toNat)
  case atStart => exact ⟨rfl, rfl, rfl⟩
  case round =>
    obtain ⟨rfl, rfl, rfl⟩ := hrel
    go_wp2_with fail
    refine (adm_any [] [] none 0 h _ (nil_news _ _) (fun x hx => by cases hx) (fun x hx => by cases hx) (by decide)).mono ?_
    rintro e w3 ⟨big3, v3, rfl, hbig, hla, hb⟩
    obtain rfl := big_nil hbig
    have HL3 := Lib.hid hla
    have HB3 := Lib.hid (HB2.out.trans (hb.mono HB2.out.size))
    clear hb hbig hla
    go_wp2_with fail
    refine (adm_any [] [] (some ⟨w1.heap.size, 0, none⟩) 0 h _ (nil_news _ _) (fun x hx => by cases hx) (fun x hx => by cases hx) (by decide)).mono ?_
    rintro e w4 ⟨big4, v4, rfl, hbig, hla, hb⟩
    obtain rfl := big_nil hbig
    have HL4 := Lib.hid hla
    have HB4 := Lib.hid (HB3.out.trans (hb.mono HB3.out.size))
    have HL3x := Lib.hid (HL3.out.below stays_Cast hb)
    clear HL3
    have HL3 := Lib.hid HL3x.out
    clear HL3x
    clear hb hbig hla
    go_wp2_with fail
    refine (adm_any [] [] none 0 h _ (nil_news _ _) (fun x hx => by cases hx) (fun x hx => by cases hx) (by decide)).mono ?_
    rintro e w5 ⟨big5, v5, rfl, hbig, hla, hb⟩
    obtain rfl := big_nil hbig
    have HL5 := Lib.hid hla
    have HB5 := Lib.hid (HB4.out.trans (hb.mono HB4.out.size))
    have HL3x := Lib.hid (HL3.out.below stays_Cast hb)
    clear HL3
    have HL3 := Lib.hid HL3x.out
    clear HL3x
    have HL4x := Lib.hid (HL4.out.below stays_Cast hb)
    clear HL4
    have HL4 := Lib.hid HL4x.out
    clear HL4x
    clear hb hbig hla
    go_wp2_with fail
    refine (sameAll_any [] _ _ _ HL3.out HL4.out (fun x hx => by cases hx) (fun x hx => by cases hx) (Nat.zero_le _)).mono ?_
    rintro e w6 ⟨rfl, hb⟩
    have HB6 := Lib.hid (HB5.out.trans (hb.mono HB5.out.size))
    have HL3x := Lib.hid (HL3.out.below stays_Cast hb)
    have HL5x := Lib.hid (HL5.out.below stays_Cast hb)
    clear hb
    go_wp2_with fail
    refine (sameAll_any [] _ _ _ HL3x.out HL5x.out (fun x hx => by cases hx) (fun x hx => by cases hx) (Nat.zero_le _)).mono ?_
    rintro e w7 ⟨rfl, hb⟩
    have HB7 := Lib.hid (HB6.out.trans (hb.mono HB6.out.size))
    clear hb
    go_wp2_with fail
    go_ret
    exact ⟨rfl, HB7.out⟩
set_option maxRecDepth 100000 in
set_option maxHeartbeats 8000000 in
theorem replays_nilc (c : Nat) (hc : c + 1 ≤ 9223372036854775807) (n h : Int) (w : World) :
    Calls Try.prog 3 #[.slice none 0 (c + 1), .int .i64 n, .int .i64 h] w fun e w' => e = .returned (.bool true) ∧ Below w.heap.size w w' := by
  obtain ⟨ic, zc, hic, hsz, hzc, hcz, hbc⟩ := infoNe
  go_enter Try.func3, Try.ntmps3
  go_wp2_with fail
  refine (small_any _).mono ?_
  rintro e w0 ⟨rfl, hb⟩
  have HB0 := Lib.hid hb
  clear hb
  go_wp2_with fail
  refine (few_any [] [] none (c + 1) w0 (nil_news _ _) (Nat.zero_le _)).mono ?_
  rintro e w1 ⟨rfl, hb⟩
  have HB1 := Lib.hid (HB0.out.trans (hb.mono HB0.out.size))
  clear hb HB0
  rw [fewB_yes (xs := []) ⟨Nat.zero_le _, fun x hx => by cases hx⟩]
  by_cases t1 : n < 0
  · go_wp2_with fail
    go_ret
    exact ⟨rfl, HB1.out⟩
  by_cases t2 : 0 < n
  · go_wp2_with fail
    go_ret
    exact ⟨rfl, HB1.out⟩
  obtain rfl : n = 0 := by omega
  clear t1 t2
  have h0c : (0 : Int) ≤ (c : Int) + 1 := by omega
  go_upto_region 5 with fail
  go_cut [9] (fun s9 wx => s9 = (.slice (some ⟨w1.heap.size, 0, none⟩) 0 0) ∧ Below w1.heap.size w1 wx)
  case first =>
    refine wp_region_noPanic ?_
    refine wp_region_held_drew (S := fun w' => Below w1.heap.size w1 w') (by kernel_rfl) (Below.refl _ _).drew (fun hHeld => ?_)
    refine' wpAnyH_take (i := 1) (v := _) (by simp only [List.getElem?_toArray, List.getElem?_cons_succ, List.getElem?_cons_zero]; exact rfl) (by kernel_rfl) (by kernel_rfl) (by kernel_rfl) (fun _ _ _ h => h) (Or.inl ⟨by rfl, ?y1x8⟩) hHeld ?r1x8
    case y1x8 => (intro w hSw; (try dsimp only at hSw); go_simp; try with_reducible rfl)
    try simp only [Act.put, List.setIfInBounds_toArray, List.set_cons_zero, List.set_cons_succ]
    refine' wpAnyH_take (i := 2) (v := _) (by simp only [List.getElem?_toArray, List.getElem?_cons_succ, List.getElem?_cons_zero]; exact rfl) (by kernel_rfl) (by kernel_rfl) (by kernel_rfl) (fun _ _ _ h => h) (Or.inl ⟨by rfl, ?y2x9⟩) hHeld ?r2x9
    case y2x9 => (intro w hSw; (try dsimp only at hSw); go_simp; try with_reducible rfl)
    try simp only [Act.put, List.setIfInBounds_toArray, List.set_cons_zero, List.set_cons_succ]
    refine' wpAnyH_take (i := 3) (v := _) (by simp only [List.getElem?_toArray, List.getElem?_cons_succ, List.getElem?_cons_zero]; exact rfl) (by kernel_rfl) (by kernel_rfl) (by kernel_rfl) (fun _ _ _ h => h) (Or.inl ⟨by rfl, ?y3x10⟩) hHeld ?r3x10
    case y3x10 => (intro w hSw; (try dsimp only at hSw); go_simp; try with_reducible rfl)
    try simp only [Act.put, List.setIfInBounds_toArray, List.set_cons_zero, List.set_cons_succ]
    refine' wpAnyH_take (i := 5) (v := _) (by simp only [List.getElem?_toArray, List.getElem?_cons_succ, List.getElem?_cons_zero]; exact rfl) (by kernel_rfl) (by kernel_rfl) (by kernel_rfl) (fun _ _ _ h => h) (Or.inl ⟨by rfl, ?y5x11⟩) hHeld ?r5x11
    case y5x11 => (intro w hSw; (try dsimp only at hSw); go_simp; try with_reducible rfl)
    try simp only [Act.put, List.setIfInBounds_toArray, List.set_cons_zero, List.set_cons_succ]
    refine' wpAnyH_take (i := 6) (v := _) (by simp only [List.getElem?_toArray, List.getElem?_cons_succ, List.getElem?_cons_zero]; exact rfl) (by kernel_rfl) (by kernel_rfl) (by kernel_rfl) (fun _ _ _ h => h) (Or.inl ⟨by rfl, ?y6x12⟩) hHeld ?r6x12
    case y6x12 => (intro w hSw; (try dsimp only at hSw); go_simp; try with_reducible rfl)
    try simp only [Act.put, List.setIfInBounds_toArray, List.set_cons_zero, List.set_cons_succ]
    refine' wpAnyH_take (i := 7) (v := _) (by simp only [List.getElem?_toArray, List.getElem?_cons_succ, List.getElem?_cons_zero]; exact rfl) (by kernel_rfl) (by kernel_rfl) (by kernel_rfl) (fun _ _ _ h => h) (Or.inl ⟨by rfl, ?y7x13⟩) hHeld ?r7x13
    case y7x13 => (intro w hSw; (try dsimp only at hSw); go_simp; try with_reducible rfl)
    try simp only [Act.put, List.setIfInBounds_toArray, List.set_cons_zero, List.set_cons_succ]
    refine wpAnyH_ready (rs := [0]) (by kernel_rfl) (by simp) ?_
    refine AllReadyH.cons (by simp only [List.getElem?_toArray, List.getElem?_cons_zero]; exact rfl) (fun K hK => ?_) AllReadyH.nil
    go_simp
    refine hK.out _ _ ((Below.refl w1.heap.size w1).alloc (Nat.le_refl _) (.cells #[] 29)).drew (fun hHeld => ?_)
    clear hK K
    try simp only [Act.put, List.setIfInBounds_toArray, List.set_cons_zero, List.set_cons_succ]
    refine wpAnyH_ready (rs := [4]) (by kernel_rfl) (by simp) ?_
    refine AllReadyH.cons (by simp only [List.getElem?_toArray, List.getElem?_cons_succ, List.getElem?_cons_zero]; exact rfl) (fun K hK => ?_) AllReadyH.nil
    refine step_append_zero rfl _ _ 22 rfl 29 ic undNs hic _ 0 0 rfl _ _ (by rfl) (Nat.le_refl _) ?_
    refine hK.out _ _ hHeld (fun hHeld => ?_)
    clear hK K
    try simp only [Act.put, List.setIfInBounds_toArray, List.set_cons_zero, List.set_cons_succ]
    refine wpAnyH_ready (rs := [8]) (by kernel_rfl) (by simp) ?_
    refine AllReadyH.cons (by simp only [List.getElem?_toArray, List.getElem?_cons_succ, List.getElem?_cons_zero]; exact rfl) (fun K hK => ?_) AllReadyH.nil
    refine step_append_zero rfl _ _ 22 rfl 29 ic undNs hic _ 0 0 rfl _ _ (by rfl) (Nat.le_refl _) ?_
    refine hK.out _ _ hHeld (fun hHeld => ?_)
    clear hK K
    try simp only [Act.put, List.setIfInBounds_toArray, List.set_cons_zero, List.set_cons_succ]
    refine' wpAnyH_take (i := 9) (v := _) (by simp only [List.getElem?_toArray, List.getElem?_cons_succ, List.getElem?_cons_zero]; exact rfl) (by kernel_rfl) (by kernel_rfl) (by kernel_rfl) (fun _ _ _ h => h) (Or.inl ⟨by rfl, ?y9x14⟩) hHeld ?r9x14
    case y9x14 => (intro w hSw; (try dsimp only at hSw); go_simp; try with_reducible rfl)
    try simp only [Act.put, List.setIfInBounds_toArray, List.set_cons_zero, List.set_cons_succ]
    refine wpAnyH_done (by kernel_rfl) ?_ _
    refine NoPanic.normal ?_
    go_wp2_with fail
    go_meet
    exact ⟨rfl, hHeld⟩

  obtain ⟨rfl, hbx⟩ := hcut
  have HB2 := Lib.hid (HB1.out.trans (hbx.mono HB1.out.size))
  clear hbx
  go_wp2_with fail
  go_loopw [10, 11] (fun tv iv wr => tv = .slice none 0 0 ∧ iv = .int .i64 (-1) ∧ wr = wc) (fun _ iv _ => (intOf iv + 1).toNat)
  case atStart => exact ⟨rfl, rfl, rfl⟩
  case round =>
    obtain ⟨rfl, rfl, rfl⟩ := hrel
    go_wp2_with fail
    refine (adm_any [] [] none (c + 1) h _ (nil_news _ _) (fun x hx => by cases hx) (fun x hx => by cases hx) (by decide)).mono ?_
    rintro e w3 ⟨big3, v3, rfl, hbig, hla, hb⟩
    obtain rfl := big_nil hbig
    have HL3 := Lib.hid hla
    have HB3 := Lib.hid (HB2.out.trans (hb.mono HB2.out.size))
    clear hb hbig hla
    go_wp2_with fail
    refine (adm_any [] [] (some ⟨w1.heap.size, 0, none⟩) 0 h _ (nil_news _ _) (fun x hx => by cases hx) (fun x hx => by cases hx) (by decide)).mono ?_
    rintro e w4 ⟨big4, v4, rfl, hbig, hla, hb⟩
    obtain rfl := big_nil hbig
    have HL4 := Lib.hid hla
    have HB4 := Lib.hid (HB3.out.trans (hb.mono HB3.out.size))
    have HL3x := Lib.hid (HL3.out.below stays_Cast hb)
    clear HL3
    have HL3 := Lib.hid HL3x.out
    clear HL3x
    clear hb hbig hla
    go_wp2_with fail
    refine (adm_any [] [] none 0 h _ (nil_news _ _) (fun x hx => by cases hx) (fun x hx => by cases hx) (by decide)).mono ?_
    rintro e w5 ⟨big5, v5, rfl, hbig, hla, hb⟩
    obtain rfl := big_nil hbig
    have HL5 := Lib.hid hla
    have HB5 := Lib.hid (HB4.out.trans (hb.mono HB4.out.size))
    have HL3x := Lib.hid (HL3.out.below stays_Cast hb)
    clear HL3
    have HL3 := Lib.hid HL3x.out
    clear HL3x
    have HL4x := Lib.hid (HL4.out.below stays_Cast hb)
    clear HL4
    have HL4 := Lib.hid HL4x.out
    clear HL4x
    clear hb hbig hla
    go_wp2_with fail
    refine (sameAll_any [] _ _ _ HL3.out HL4.out (fun x hx => by cases hx) (fun x hx => by cases hx) (Nat.zero_le _)).mono ?_
    rintro e w6 ⟨rfl, hb⟩
    have HB6 := Lib.hid (HB5.out.trans (hb.mono HB5.out.size))
    have HL3x := Lib.hid (HL3.out.below stays_Cast hb)
    have HL5x := Lib.hid (HL5.out.below stays_Cast hb)
    clear hb
    go_wp2_with fail
    refine (sameAll_any [] _ _ _ HL3x.out HL5x.out (fun x hx => by cases hx) (fun x hx => by cases hx) (Nat.zero_le _)).mono ?_
    rintro e w7 ⟨rfl, hb⟩
    have HB7 := Lib.hid (HB6.out.trans (hb.mono HB6.out.size))
    clear hb
    go_wp2_with fail
    go_ret
    exact ⟨rfl, HB7.out⟩
set_option maxRecDepth 100000 in
set_option maxHeartbeats 8000000 in
theorem replays_zero (a : Addr) (n h : Int) (w : World) :
    Calls Try.prog 3 #[.slice (some a) 0 0, .int .i64 n, .int .i64 h] w fun e w' => e = .returned (.bool true) ∧ Below w.heap.size w w' := by
  obtain ⟨ic, zc, hic, hsz, hzc, hcz, hbc⟩ := infoNe
  go_enter Try.func3, Try.ntmps3
  go_wp2_with fail
  refine (small_any _).mono ?_
  rintro e w0 ⟨rfl, hb⟩
  have HB0 := Lib.hid hb
  clear hb
  go_wp2_with fail
  refine (few_any [] [] (some a) 0 w0 (nil_news _ _) (Nat.zero_le _)).mono ?_
  rintro e w1 ⟨rfl, hb⟩
  have HB1 := Lib.hid (HB0.out.trans (hb.mono HB0.out.size))
  clear hb HB0
  rw [fewB_yes (xs := []) ⟨Nat.zero_le _, fun x hx => by cases hx⟩]
  by_cases t1 : n < 0
  · go_wp2_with fail
    go_ret
    exact ⟨rfl, HB1.out⟩
  by_cases t2 : 0 < n
  · go_wp2_with fail
    go_ret
    exact ⟨rfl, HB1.out⟩
  obtain rfl : n = 0 := by omega
  clear t1 t2
  go_upto_region 5 with fail
  go_cut [9] (fun s9 wx => s9 = (.slice (some ⟨w1.heap.size, 0, none⟩) 0 0) ∧ Below w1.heap.size w1 wx)
  case first =>
    refine wp_region_noPanic ?_
    refine wp_region_held_drew (S := fun w' => Below w1.heap.size w1 w') (by kernel_rfl) (Below.refl _ _).drew (fun hHeld => ?_)
    refine' wpAnyH_take (i := 1) (v := _) (by simp only [List.getElem?_toArray, List.getElem?_cons_succ, List.getElem?_cons_zero]; exact rfl) (by kernel_rfl) (by kernel_rfl) (by kernel_rfl) (fun _ _ _ h => h) (Or.inl ⟨by rfl, ?y1x15⟩) hHeld ?r1x15
    case y1x15 => (intro w hSw; (try dsimp only at hSw); go_simp; try with_reducible rfl)
    try simp only [Act.put, List.setIfInBounds_toArray, List.set_cons_zero, List.set_cons_succ]
    refine' wpAnyH_take (i := 2) (v := _) (by simp only [List.getElem?_toArray, List.getElem?_cons_succ, List.getElem?_cons_zero]; exact rfl) (by kernel_rfl) (by kernel_rfl) (by kernel_rfl) (fun _ _ _ h => h) (Or.inl ⟨by rfl, ?y2x16⟩) hHeld ?r2x16
    case y2x16 => (intro w hSw; (try dsimp only at hSw); go_simp; try with_reducible rfl)
    try simp only [Act.put, List.setIfInBounds_toArray, List.set_cons_zero, List.set_cons_succ]
    refine' wpAnyH_take (i := 3) (v := _) (by simp only [List.getElem?_toArray, List.getElem?_cons_succ, List.getElem?_cons_zero]; exact rfl) (by kernel_rfl) (by kernel_rfl) (by kernel_rfl) (fun _ _ _ h => h) (Or.inl ⟨by rfl, ?y3x17⟩) hHeld ?r3x17
    case y3x17 => (intro w hSw; (try dsimp only at hSw); go_simp; try with_reducible rfl)
    try simp only [Act.put, List.setIfInBounds_toArray, List.set_cons_zero, List.set_cons_succ]
    refine' wpAnyH_take (i := 5) (v := _) (by simp only [List.getElem?_toArray, List.getElem?_cons_succ, List.getElem?_cons_zero]; exact rfl) (by kernel_rfl) (by kernel_rfl) (by kernel_rfl) (fun _ _ _ h => h) (Or.inl ⟨by rfl, ?y5x18⟩) hHeld ?r5x18
    case y5x18 => (intro w hSw; (try dsimp only at hSw); go_simp; try with_reducible rfl)
    try simp only [Act.put, List.setIfInBounds_toArray, List.set_cons_zero, List.set_cons_succ]
    refine' wpAnyH_take (i := 6) (v := _) (by simp only [List.getElem?_toArray, List.getElem?_cons_succ, List.getElem?_cons_zero]; exact rfl) (by kernel_rfl) (by kernel_rfl) (by kernel_rfl) (fun _ _ _ h => h) (Or.inl ⟨by rfl, ?y6x19⟩) hHeld ?r6x19
    case y6x19 => (intro w hSw; (try dsimp only at hSw); go_simp; try with_reducible rfl)
    try simp only [Act.put, List.setIfInBounds_toArray, List.set_cons_zero, List.set_cons_succ]
    refine' wpAnyH_take (i := 7) (v := _) (by simp only [List.getElem?_toArray, List.getElem?_cons_succ, List.getElem?_cons_zero]; exact rfl) (by kernel_rfl) (by kernel_rfl) (by kernel_rfl) (fun _ _ _ h => h) (Or.inl ⟨by rfl, ?y7x20⟩) hHeld ?r7x20
    case y7x20 => (intro w hSw; (try dsimp only at hSw); go_simp; try with_reducible rfl)
    try simp only [Act.put, List.setIfInBounds_toArray, List.set_cons_zero, List.set_cons_succ]
    refine wpAnyH_ready (rs := [0]) (by kernel_rfl) (by simp) ?_
    refine AllReadyH.cons (by simp only [List.getElem?_toArray, List.getElem?_cons_zero]; exact rfl) (fun K hK => ?_) AllReadyH.nil
    go_simp
    refine hK.out _ _ ((Below.refl w1.heap.size w1).alloc (Nat.le_refl _) (.cells #[] 29)).drew (fun hHeld => ?_)
    clear hK K
    try simp only [Act.put, List.setIfInBounds_toArray, List.set_cons_zero, List.set_cons_succ]
    refine wpAnyH_ready (rs := [4]) (by kernel_rfl) (by simp) ?_
    refine AllReadyH.cons (by simp only [List.getElem?_toArray, List.getElem?_cons_succ, List.getElem?_cons_zero]; exact rfl) (fun K hK => ?_) AllReadyH.nil
    refine step_append_zero rfl _ _ 22 rfl 29 ic undNs hic _ 0 0 rfl _ _ (by rfl) (Nat.le_refl _) ?_
    refine hK.out _ _ hHeld (fun hHeld => ?_)
    clear hK K
    try simp only [Act.put, List.setIfInBounds_toArray, List.set_cons_zero, List.set_cons_succ]
    refine wpAnyH_ready (rs := [8]) (by kernel_rfl) (by simp) ?_
    refine AllReadyH.cons (by simp only [List.getElem?_toArray, List.getElem?_cons_succ, List.getElem?_cons_zero]; exact rfl) (fun K hK => ?_) AllReadyH.nil
    refine step_append_zero rfl _ _ 22 rfl 29 ic undNs hic _ 0 0 rfl _ _ (by rfl) (Nat.le_refl _) ?_
    refine hK.out _ _ hHeld (fun hHeld => ?_)
    clear hK K
    try simp only [Act.put, List.setIfInBounds_toArray, List.set_cons_zero, List.set_cons_succ]
    refine' wpAnyH_take (i := 9) (v := _) (by simp only [List.getElem?_toArray, List.getElem?_cons_succ, List.getElem?_cons_zero]; exact rfl) (by kernel_rfl) (by kernel_rfl) (by kernel_rfl) (fun _ _ _ h => h) (Or.inl ⟨by rfl, ?y9x21⟩) hHeld ?r9x21
    case y9x21 => (intro w hSw; (try dsimp only at hSw); go_simp; try with_reducible rfl)
    try simp only [Act.put, List.setIfInBounds_toArray, List.set_cons_zero, List.set_cons_succ]
    refine wpAnyH_done (by kernel_rfl) ?_ _
    refine NoPanic.normal ?_
    go_wp2_with fail
    go_meet
    exact ⟨rfl, hHeld⟩

  obtain ⟨rfl, hbx⟩ := hcut
  have HB2 := Lib.hid (HB1.out.trans (hbx.mono HB1.out.size))
  clear hbx
  go_wp2_with fail
  go_loopw [10, 11] (fun tv iv wr => tv = .slice none 0 0 ∧ iv = .int .i64 (-1) ∧ wr = wc) (fun _ iv _ => (intOf iv + 1).toNat)
  case atStart => exact ⟨rfl, rfl, rfl⟩
  case round =>
    obtain ⟨rfl, rfl, rfl⟩ := hrel
    go_wp2_with fail
    refine (adm_any [] [] (some a) 0 h _ (nil_news _ _) (fun x hx => by cases hx) (fun x hx => by cases hx) (by decide)).mono ?_
    rintro e w3 ⟨big3, v3, rfl, hbig, hla, hb⟩
    obtain rfl := big_nil hbig
    have HL3 := Lib.hid hla
    have HB3 := Lib.hid (HB2.out.trans (hb.mono HB2.out.size))
    clear hb hbig hla
    go_wp2_with fail
    refine (adm_any [] [] (some ⟨w1.heap.size, 0, none⟩) 0 h _ (nil_news _ _) (fun x hx => by cases hx) (fun x hx => by cases hx) (by decide)).mono ?_
    rintro e w4 ⟨big4, v4, rfl, hbig, hla, hb⟩
    obtain rfl := big_nil hbig
    have HL4 := Lib.hid hla
    have HB4 := Lib.hid (HB3.out.trans (hb.mono HB3.out.size))
    have HL3x := Lib.hid (HL3.out.below stays_Cast hb)
    clear HL3
    have HL3 := Lib.hid HL3x.out
    clear HL3x
    clear hb hbig hla
    go_wp2_with fail
    refine (adm_any [] [] none 0 h _ (nil_news _ _) (fun x hx => by cases hx) (fun x hx => by cases hx) (by decide)).mono ?_
    rintro e w5 ⟨big5, v5, rfl, hbig, hla, hb⟩
    obtain rfl := big_nil hbig
    have HL5 := Lib.hid hla
    have HB5 := Lib.hid (HB4.out.trans (hb.mono HB4.out.size))
    have HL3x := Lib.hid (HL3.out.below stays_Cast hb)
    clear HL3
    have HL3 := Lib.hid HL3x.out
    clear HL3x
    have HL4x := Lib.hid (HL4.out.below stays_Cast hb)
    clear HL4
    have HL4 := Lib.hid HL4x.out
    clear HL4x
    clear hb hbig hla
    go_wp2_with fail
    refine (sameAll_any [] _ _ _ HL3.out HL4.out (fun x hx => by cases hx) (fun x hx => by cases hx) (Nat.zero_le _)).mono ?_
    rintro e w6 ⟨rfl, hb⟩
    have HB6 := Lib.hid (HB5.out.trans (hb.mono HB5.out.size))
    have HL3x := Lib.hid (HL3.out.below stays_Cast hb)
    have HL5x := Lib.hid (HL5.out.below stays_Cast hb)
    clear hb
    go_wp2_with fail
    refine (sameAll_any [] _ _ _ HL3x.out HL5x.out (fun x hx => by cases hx) (fun x hx => by cases hx) (Nat.zero_le _)).mono ?_
    rintro e w7 ⟨rfl, hb⟩
    have HB7 := Lib.hid (HB6.out.trans (hb.mono HB6.out.size))
    clear hb
    go_wp2_with fail
    go_ret
    exact ⟨rfl, HB7.out⟩
set_option maxRecDepth 100000 in
set_option maxHeartbeats 8000000 in
theorem replays_empty (a : Addr) (c : Nat) (hc : c + 1 ≤ 9223372036854775807) (n h : Int) (w : World) :
    Calls Try.prog 3 #[.slice (some a) 0 (c + 1), .int .i64 n, .int .i64 h] w fun e w' => e = .returned (.bool true) ∧ Below w.heap.size w w' := by
  obtain ⟨ic, zc, hic, hsz, hzc, hcz, hbc⟩ := infoNe
  go_enter Try.func3, Try.ntmps3
  go_wp2_with fail
  refine (small_any _).mono ?_
  rintro e w0 ⟨rfl, hb⟩
  have HB0 := Lib.hid hb
  clear hb
  go_wp2_with fail
  refine (few_any [] [] (some a) (c + 1) w0 (nil_news _ _) (Nat.zero_le _)).mono ?_
  rintro e w1 ⟨rfl, hb⟩
  have HB1 := Lib.hid (HB0.out.trans (hb.mono HB0.out.size))
  clear hb HB0
  rw [fewB_yes (xs := []) ⟨Nat.zero_le _, fun x hx => by cases hx⟩]
  by_cases t1 : n < 0
  · go_wp2_with fail
    go_ret
    exact ⟨rfl, HB1.out⟩
  by_cases t2 : 0 < n
  · go_wp2_with fail
    go_ret
    exact ⟨rfl, HB1.out⟩
  obtain rfl : n = 0 := by omega
  clear t1 t2
  have h0c : (0 : Int) ≤ (c : Int) + 1 := by omega
  go_upto_region 5 with fail
  go_cut [9] (fun s9 wx => s9 = (.slice (some ⟨w1.heap.size, 0, none⟩) 0 0) ∧ Below w1.heap.size w1 wx)
  case first =>
    refine wp_region_noPanic ?_
    refine wp_region_held_drew (S := fun w' => Below w1.heap.size w1 w') (by kernel_rfl) (Below.refl _ _).drew (fun hHeld => ?_)
    refine' wpAnyH_take (i := 1) (v := _) (by simp only [List.getElem?_toArray, List.getElem?_cons_succ, List.getElem?_cons_zero]; exact rfl) (by kernel_rfl) (by kernel_rfl) (by kernel_rfl) (fun _ _ _ h => h) (Or.inl ⟨by rfl, ?y1x22⟩) hHeld ?r1x22
    case y1x22 => (intro w hSw; (try dsimp only at hSw); go_simp; try with_reducible rfl)
    try simp only [Act.put, List.setIfInBounds_toArray, List.set_cons_zero, List.set_cons_succ]
    refine' wpAnyH_take (i := 2) (v := _) (by simp only [List.getElem?_toArray, List.getElem?_cons_succ, List.getElem?_cons_zero]; exact rfl) (by kernel_rfl) (by kernel_rfl) (by kernel_rfl) (fun _ _ _ h => h) (Or.inl ⟨by rfl, ?y2x23⟩) hHeld ?r2x23
    case y2x23 => (intro w hSw; (try dsimp only at hSw); go_simp; try with_reducible rfl)
    try simp only [Act.put, List.setIfInBounds_toArray, List.set_cons_zero, List.set_cons_succ]
    refine' wpAnyH_take (i := 3) (v := _) (by simp only [List.getElem?_toArray, List.getElem?_cons_succ, List.getElem?_cons_zero]; exact rfl) (by kernel_rfl) (by kernel_rfl) (by kernel_rfl) (fun _ _ _ h => h) (Or.inl ⟨by rfl, ?y3x24⟩) hHeld ?r3x24
    case y3x24 => (intro w hSw; (try dsimp only at hSw); go_simp; try with_reducible rfl)
    try simp only [Act.put, List.setIfInBounds_toArray, List.set_cons_zero, List.set_cons_succ]
    refine' wpAnyH_take (i := 5) (v := _) (by simp only [List.getElem?_toArray, List.getElem?_cons_succ, List.getElem?_cons_zero]; exact rfl) (by kernel_rfl) (by kernel_rfl) (by kernel_rfl) (fun _ _ _ h => h) (Or.inl ⟨by rfl, ?y5x25⟩) hHeld ?r5x25
    case y5x25 => (intro w hSw; (try dsimp only at hSw); go_simp; try with_reducible rfl)
    try simp only [Act.put, List.setIfInBounds_toArray, List.set_cons_zero, List.set_cons_succ]
    refine' wpAnyH_take (i := 6) (v := _) (by simp only [List.getElem?_toArray, List.getElem?_cons_succ, List.getElem?_cons_zero]; exact rfl) (by kernel_rfl) (by kernel_rfl) (by kernel_rfl) (fun _ _ _ h => h) (Or.inl ⟨by rfl, ?y6x26⟩) hHeld ?r6x26
    case y6x26 => (intro w hSw; (try dsimp only at hSw); go_simp; try with_reducible rfl)
    try simp only [Act.put, List.setIfInBounds_toArray, List.set_cons_zero, List.set_cons_succ]
    refine' wpAnyH_take (i := 7) (v := _) (by simp only [List.getElem?_toArray, List.getElem?_cons_succ, List.getElem?_cons_zero]; exact rfl) (by kernel_rfl) (by kernel_rfl) (by kernel_rfl) (fun _ _ _ h => h) (Or.inl ⟨by rfl, ?y7x27⟩) hHeld ?r7x27
    case y7x27 => (intro w hSw; (try dsimp only at hSw); go_simp; try with_reducible rfl)
    try simp only [Act.put, List.setIfInBounds_toArray, List.set_cons_zero, List.set_cons_succ]
    refine wpAnyH_ready (rs := [0]) (by kernel_rfl) (by simp) ?_
    refine AllReadyH.cons (by simp only [List.getElem?_toArray, List.getElem?_cons_zero]; exact rfl) (fun K hK => ?_) AllReadyH.nil
    go_simp
    refine hK.out _ _ ((Below.refl w1.heap.size w1).alloc (Nat.le_refl _) (.cells #[] 29)).drew (fun hHeld => ?_)
    clear hK K
    try simp only [Act.put, List.setIfInBounds_toArray, List.set_cons_zero, List.set_cons_succ]
    refine wpAnyH_ready (rs := [4]) (by kernel_rfl) (by simp) ?_
    refine AllReadyH.cons (by simp only [List.getElem?_toArray, List.getElem?_cons_succ, List.getElem?_cons_zero]; exact rfl) (fun K hK => ?_) AllReadyH.nil
    refine step_append_zero rfl _ _ 22 rfl 29 ic undNs hic _ 0 0 rfl _ _ (by rfl) (Nat.le_refl _) ?_
    refine hK.out _ _ hHeld (fun hHeld => ?_)
    clear hK K
    try simp only [Act.put, List.setIfInBounds_toArray, List.set_cons_zero, List.set_cons_succ]
    refine wpAnyH_ready (rs := [8]) (by kernel_rfl) (by simp) ?_
    refine AllReadyH.cons (by simp only [List.getElem?_toArray, List.getElem?_cons_succ, List.getElem?_cons_zero]; exact rfl) (fun K hK => ?_) AllReadyH.nil
    refine step_append_zero rfl _ _ 22 rfl 29 ic undNs hic _ 0 0 rfl _ _ (by rfl) (Nat.le_refl _) ?_
    refine hK.out _ _ hHeld (fun hHeld => ?_)
    clear hK K
    try simp only [Act.put, List.setIfInBounds_toArray, List.set_cons_zero, List.set_cons_succ]
    refine' wpAnyH_take (i := 9) (v := _) (by simp only [List.getElem?_toArray, List.getElem?_cons_succ, List.getElem?_cons_zero]; exact rfl) (by kernel_rfl) (by kernel_rfl) (by kernel_rfl) (fun _ _ _ h => h) (Or.inl ⟨by rfl, ?y9x28⟩) hHeld ?r9x28
    case y9x28 => (intro w hSw; (try dsimp only at hSw); go_simp; try with_reducible rfl)
    try simp only [Act.put, List.setIfInBounds_toArray, List.set_cons_zero, List.set_cons_succ]
    refine wpAnyH_done (by kernel_rfl) ?_ _
    refine NoPanic.normal ?_
    go_wp2_with fail
    go_meet
    exact ⟨rfl, hHeld⟩

  obtain ⟨rfl, hbx⟩ := hcut
  have HB2 := Lib.hid (HB1.out.trans (hbx.mono HB1.out.size))
  clear hbx
  go_wp2_with fail
  go_loopw [10, 11] (fun tv iv wr => tv = .slice none 0 0 ∧ iv = .int .i64 (-1) ∧ wr = wc) (fun _ iv _ => (intOf iv + 1).toNat)
  case atStart => exact ⟨rfl, rfl, rfl⟩
  case round =>
    obtain ⟨rfl, rfl, rfl⟩ := hrel
    go_wp2_with fail
    refine (adm_any [] [] (some a) (c + 1) h _ (nil_news _ _) (fun x hx => by cases hx) (fun x hx => by cases hx) (by decide)).mono ?_
    rintro e w3 ⟨big3, v3, rfl, hbig, hla, hb⟩
    obtain rfl := big_nil hbig
    have HL3 := Lib.hid hla
    have HB3 := Lib.hid (HB2.out.trans (hb.mono HB2.out.size))
    clear hb hbig hla
    go_wp2_with fail
    refine (adm_any [] [] (some ⟨w1.heap.size, 0, none⟩) 0 h _ (nil_news _ _) (fun x hx => by cases hx) (fun x hx => by cases hx) (by decide)).mono ?_
    rintro e w4 ⟨big4, v4, rfl, hbig, hla, hb⟩
    obtain rfl := big_nil hbig
    have HL4 := Lib.hid hla
    have HB4 := Lib.hid (HB3.out.trans (hb.mono HB3.out.size))
    have HL3x := Lib.hid (HL3.out.below stays_Cast hb)
    clear HL3
    have HL3 := Lib.hid HL3x.out
    clear HL3x
    clear hb hbig hla
    go_wp2_with fail
    refine (adm_any [] [] none 0 h _ (nil_news _ _) (fun x hx => by cases hx) (fun x hx => by cases hx) (by decide)).mono ?_
    rintro e w5 ⟨big5, v5, rfl, hbig, hla, hb⟩
    obtain rfl := big_nil hbig
    have HL5 := Lib.hid hla
    have HB5 := Lib.hid (HB4.out.trans (hb.mono HB4.out.size))
    have HL3x := Lib.hid (HL3.out.below stays_Cast hb)
    clear HL3
    have HL3 := Lib.hid HL3x.out
    clear HL3x
    have HL4x := Lib.hid (HL4.out.below stays_Cast hb)
    clear HL4
    have HL4 := Lib.hid HL4x.out
    clear HL4x
    clear hb hbig hla
    go_wp2_with fail
    refine (sameAll_any [] _ _ _ HL3.out HL4.out (fun x hx => by cases hx) (fun x hx => by cases hx) (Nat.zero_le _)).mono ?_
    rintro e w6 ⟨rfl, hb⟩
    have HB6 := Lib.hid (HB5.out.trans (hb.mono HB5.out.size))
    have HL3x := Lib.hid (HL3.out.below stays_Cast hb)
    have HL5x := Lib.hid (HL5.out.below stays_Cast hb)
    clear hb
    go_wp2_with fail
    refine (sameAll_any [] _ _ _ HL3x.out HL5x.out (fun x hx => by cases hx) (fun x hx => by cases hx) (Nat.zero_le _)).mono ?_
    rintro e w7 ⟨rfl, hb⟩
    have HB7 := Lib.hid (HB6.out.trans (hb.mono HB6.out.size))
    clear hb
    go_wp2_with fail
    go_ret
    exact ⟨rfl, HB7.out⟩

end Go.Proofs.Ytleiiedacachjaa
