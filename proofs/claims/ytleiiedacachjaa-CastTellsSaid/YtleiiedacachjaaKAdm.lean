/- cast.Admitted: of each forecast the last news that count. -/
import Derived.Test.YtleiiedacachjaaKBest
import Derived.Test.YtleiiedacachjaaKKeys
import Derived.Deep.DeepCutAuto
namespace Go.Proofs.Ytleiiedacachjaa
open Go.RowKit Go.Maps
theorem undNw : Try.prog.underlying 29 = some (.struct (Try.prog.fieldsOf 29)) := by kernel_rfl
theorem infoNw : (Try.prog.info? 29).map (·.size) = some 5 := by kernel_rfl
theorem undCd : Try.prog.underlying 66 = some (.struct (Try.prog.fieldsOf 66)) := by kernel_rfl
theorem infoCd : (Try.prog.info? 66).map (·.size) = some 6 := by kernel_rfl
theorem less_is {a b : List UInt8} {r : Bool} (h : decide (a < b) = r) : Op.bytesLess a b = r := by
  rw [bytesLess_eq]
  exact h
theorem beq_is {a b : List UInt8} {r : Bool} (h : decide (a = b) = r) : (a == b) = r := by
  rw [← h]
  by_cases h : a = b
  · subst h
    simp
  · rw [decide_eq_false h, beq_eq_false_iff_ne]
    exact h
theorem field_news (x : NewsV) (u : Value) (w : World) : (Instr.field 66 (.agg #[.string ⟨(newsB x).toArray⟩, .int .i64 x.kind, .int .i64 x.known, .int .i64 x.cast.id, .int .i64 x.cast.src, u]) 1).run Try.prog w = .ok (.agg #[.int .i64 x.kind, .int .i64 x.known, .int .i64 x.cast.id, .int .i64 x.cast.src, u]) w := by kernel_rfl
theorem undKa : Try.prog.underlying 27 = some (.struct (Try.prog.fieldsOf 27)) := by kernel_rfl
theorem infoKa : (Try.prog.info? 27).map (·.size) = some 3 := by kernel_rfl
theorem undCs : Try.prog.underlying 30 = some (.slice 27) := by kernel_rfl
theorem infoKc : ∃ i z, Try.prog.info? 27 = some i ∧ i.size = 3 ∧ i.zero = some z ∧ z.cells.size = 3 ∧ i.bytes * 1024 ≤ 140737488355328 := by
  have h : (Try.prog.info? 27).map (fun i => (i.size, i.zero.map (fun z => z.cells.size), decide (i.bytes * 1024 ≤ 140737488355328))) = some (3, some 3, true) := by kernel_rfl
  cases hi : Try.prog.info? 27 with
  | none => rw [hi] at h; cases h
  | some i =>
    rw [hi] at h
    simp only [Option.map_some, Option.some.injEq, Prod.mk.injEq] at h
    obtain ⟨h1, h2, h3⟩ := h
    cases hz : i.zero with
    | none => rw [hz] at h2; cases h2
    | some z =>
      rw [hz] at h2
      simp only [Option.map_some, Option.some.injEq] at h2
      exact ⟨i, z, rfl, h1, hz, h2, of_decide_eq_true h3⟩
theorem range3 {w : World} {b k : Nat} {x y z : Value} (h1 : w.cell? ⟨b, k, none⟩ = some x) (h2 : w.cell? ⟨b, k + 1, none⟩ = some y) (h3 : w.cell? ⟨b, k + 2, none⟩ = some z) : w.rangeAt b k [x, y, z] := fun j v hv => by
  rcases j with _ | _ | _ | j
  · cases hv; exact h1
  · cases hv; exact h2
  · cases hv; exact h3
  · exact absurd hv (by simp)
theorem owns_slice {w : World} {base n size : Nat} {e : TypeId} {v : Value} {xs : List Value} (h : w.ownsRow base e size v n xs) : ∃ a c, v = .slice a n c := by
  rcases h.2 with ⟨rfl, h0⟩ | ⟨g, cap, cur, rfl, _⟩
  · exact ⟨none, 0, by rw [h0]⟩
  · exact ⟨_, _, rfl⟩
theorem keepE_len (es : List (NewsV × Value)) : (keepE es).length ≤ 32 := by
  unfold keepE
  rw [List.length_take]
  exact Nat.min_le_left _ _
theorem keepE_skip (es : List (NewsV × Value)) (q : NewsV × Value) (h : q.1.kind = 2) : keepE (es ++ [q]) = keepE es := by
  unfold keepE
  rw [List.filter_append, List.filter_cons_of_neg (by simp [h])]
  simp
theorem keepE_full (es : List (NewsV × Value)) (q : NewsV × Value) (h : 32 ≤ (keepE es).length) : keepE (es ++ [q]) = keepE es := by
  unfold keepE at h ⊢
  rw [List.length_take] at h
  rw [List.filter_append, List.take_append_of_le_length (by omega)]
theorem keepE_add (es : List (NewsV × Value)) (q : NewsV × Value) (h : q.1.kind ≠ 2) (hl : (keepE es).length < 32) : keepE (es ++ [q]) = keepE es ++ [q] := by
  unfold keepE at hl ⊢
  rw [List.length_take] at hl
  rw [List.filter_append, List.filter_cons_of_pos (by simp [h]), List.filter_nil, List.take_of_length_le (by rw [List.length_append, List.length_singleton]; omega), List.take_of_length_le (by omega)]
def cellsN (x : NewsV) (u : Value) : List Value := [.int .i64 x.kind, .int .i64 x.known, .int .i64 x.cast.id, .int .i64 x.cast.src, u]
/-- the news that came in: the values of their rain, where they lie -/
def NewsS (xs : List NewsV) (vs : List Value) (a : Option Addr) (w : World) : Prop :=
  vs.length = xs.length ∧ ∀ (i : Nat) (x : NewsV), xs[i]? = some x → ∃ u b o, vs[i]? = some u ∧ a = some ⟨b, o, none⟩ ∧ b < w.heap.size ∧ w.rangeAt b (o + i * 5) (cellsN x u) ∧ LArg (RList RSpan 2) 1 u x.cast.rain w
theorem NewsS.below {xs : List NewsV} {vs : List Value} {a : Option Addr} {w w' : World} (h : NewsS xs vs a w) (hb : Below w.heap.size w w') : NewsS xs vs a w' :=
  ⟨h.1, fun i x hx => by
    obtain ⟨u, b, o, h1, h2, h3, h4, h5⟩ := h.2 i x hx
    exact ⟨u, b, o, h1, h2, Nat.lt_of_lt_of_le h3 hb.size, range_below h4 hb h3, h5.below (stays_list stays_Span 2) hb⟩⟩
def FewN (x : NewsV) : Prop := x.cast.rain.length ≤ 30 ∧ ∀ r ∈ x.cast.rain, r.length ≤ 70
/-- what a round holds: the element's block, the map, and all that was there before -/
structure AS (R : RdR) (w : World) (bN mb : Nat) (row : Array Value) (m : OM) (c : World) : Prop where
  row : c.heap[bN]? = some (.cells row 29 (0, 0))
  map : MapAt R c mb m.length m
  ne : bN ≠ mb
  below : Below w.heap.size w c
theorem AS.step {R : RdR} {w : World} {bN mb : Nat} {row : Array Value} {m : OM} {c c' : World} (h : AS R w bN mb row m c) (hb : Below c.heap.size c c') : AS R w bN mb row m c' :=
  ⟨blk_below h.row hb (blk_lt h.row), h.map.below hb, h.ne, h.below.trans (hb.mono h.below.size)⟩
theorem AS.allocZ {R : RdR} {w : World} {bN mb : Nat} {row : Array Value} {m : OM} {c : World} {o : Obj} (h : AS R w bN mb row m c) :
    ∃ b, AS R w bN mb row m (c.alloc o) ∧ (c.alloc o).heap[b]? = some o ∧ b = c.heap.size ∧ w.heap.size ≤ b ∧ bN ≠ b ∧ mb ≠ b :=
  ⟨_, h.step ((Below.refl _ _).alloc (Nat.le_refl _) o), heap_alloc_new _ _, rfl, h.below.size, Nat.ne_of_lt (blk_lt h.row), Nat.ne_of_lt h.map.lt⟩
theorem AS.allocZd {R : RdR} {w : World} {bN mb : Nat} {row : Array Value} {m : OM} {c : World} {o : Obj} (h : AS R w bN mb row m c.drew) :
    ∃ b, AS R w bN mb row m (c.alloc o).drew ∧ (c.alloc o).drew.heap[b]? = some o ∧ b = c.heap.size ∧ w.heap.size ≤ b ∧ bN ≠ b ∧ mb ≠ b := by
  have h2 : AS R w bN mb row m c := ⟨h.row, by
    obtain ⟨es, clock, hm, h5⟩ := h.map
    exact ⟨es, clock, hm, h5⟩, h.ne, ⟨h.below.os, h.below.tape, h.below.output, h.below.size, h.below.block⟩⟩
  obtain ⟨b, h3, h4, h5⟩ := h2.allocZ (o := o)
  exact ⟨b, h3.step (Below.refl _ _).drew, h4, h5⟩
theorem AS.setRow {R : RdR} {w : World} {bN mb b : Nat} {row cs : Array Value} {m : OM} {c : World} (h : AS R w bN mb row m c) (hle : w.heap.size ≤ b) (h1 : bN ≠ b) (h2 : mb ≠ b) : AS R w bN mb row m (c.setRow b cs) :=
  ⟨(setRow_other _ _ _ _ h1).trans h.row, by
    obtain ⟨es, clock, hm, h5⟩ := h.map
    exact ⟨es, clock, (setRow_other _ _ _ _ h2).trans hm, h5⟩, h.ne, below_setRow h.below hle _⟩
set_option maxRecDepth 100000 in
set_option maxHeartbeats 8000000 in
theorem adm_own (xs : List NewsV) (vs : List Value) (a : Option Addr) (c : Nat) (h : Int) (w : World) (hS : NewsS xs vs a w) (hI : ∀ x ∈ xs, NewsI x) (hF : ∀ x ∈ xs, FewN x) (hl : xs.length ≤ 100) :
    Calls Try.prog 11 #[.slice a xs.length c, .int .i64 h] w fun e w' => ∃ (big : List NewsV) (v : Value) (ks : List (NewsV × Value)), e = .returned v ∧ IsBig h xs big ∧ ks.map (·.1) = keepN big ∧ (∀ q ∈ ks, ∃ j : Nat, xs[j]? = some q.1 ∧ vs[j]? = some q.2) ∧ w'.ownsRow w.heap.size 27 3 v ks.length (ks.flatMap cellsK) ∧ Below w.heap.size w w' := by
  have hmm := @run_makeMap Try.prog
  obtain ⟨ic, zc, hic, hsz, hzc, hcz, hbc⟩ := infoKc
  have HS := Lib.hid hS
  have HI := Lib.hid hI
  have HF := Lib.hid hF
  clear hS hI hF
  go_enter Try.func11, Try.ntmps11
  go_upto_region 2 with fail
  clear hmm
  have HM0 : Hid (MapAt (codR xs vs) (w.alloc (.map #[] 0)) w.heap.size 0 []) := Lib.hid (World.ownsMap_made w Try.prog 3 (codR xs vs))
  have HB0 := Lib.hid ((Below.refl w.heap.size w).alloc (Nat.le_refl _) (.map #[] 0))
  generalize w.alloc (.map #[] 0) = w0 at *
  go_wp2_with fail
  go_loopw [18] (fun iv wr => ∃ (k : Nat) (m : OM), k ≤ xs.length ∧ iv = .int .i64 k ∧ BestM h xs k m ∧ MapAt (codR xs vs) wr w.heap.size m.length m ∧ Below w.heap.size w wr) (fun iv _ => xs.length - (intOf iv).toNat)
  case atStart => exact ⟨0, [], Nat.zero_le _, rfl, best_nil _ _, HM0.out, HB0.out⟩
  case round =>
    obtain ⟨k, m, hk, rfl, hbm, hmap, hb⟩ := hrel
    have HBM := Lib.hid hbm
    have HMr := Lib.hid hmap
    have HBr := Lib.hid hb
    clear hbm hmap hb HM0 HB0
    by_cases hlt : k < xs.length
    · obtain ⟨x, hx⟩ : ∃ x, xs[k]? = some x := ⟨_, List.getElem?_eq_getElem hlt⟩
      obtain ⟨u, b, o, hvu, ha, hbl, hrg, hru⟩ := HS.out.2 k x hx
      subst ha
      obtain ⟨a1, q1, rfl, -, -⟩ := hru.slice
      have HX := Lib.hid hx
      have HVU := Lib.hid hvu
      have HU := Lib.hid hru
      unfold cellsN at hrg
      have HRG := Lib.hid (rangeAt_below hrg HBr.out hbl)
      have HNI := Lib.hid (HI.out x (List.mem_of_getElem? hx))
      have HFW := Lib.hid (HF.out x (List.mem_of_getElem? hx))
      have hbe : Below wr.heap.size wr (wr.alloc (.cells #[.int .i64 x.kind, .int .i64 x.known, .int .i64 x.cast.id, .int .i64 x.cast.src, .slice a1 x.cast.rain.length q1] 29)) := (Below.refl _ _).alloc (Nat.le_refl _) (.cells #[.int .i64 x.kind, .int .i64 x.known, .int .i64 x.cast.id, .int .i64 x.cast.src, .slice a1 x.cast.rain.length q1] 29)
      have HA : Hid (AS (codR xs vs) w wr.heap.size w.heap.size #[.int .i64 x.kind, .int .i64 x.known, .int .i64 x.cast.id, .int .i64 x.cast.src, .slice a1 x.cast.rain.length q1] m (wr.alloc (.cells #[.int .i64 x.kind, .int .i64 x.known, .int .i64 x.cast.id, .int .i64 x.cast.src, .slice a1 x.cast.rain.length q1] 29))) := Lib.hid ⟨heap_alloc_new wr (.cells #[.int .i64 x.kind, .int .i64 x.known, .int .i64 x.cast.id, .int .i64 x.cast.src, .slice a1 x.cast.rain.length q1] 29), HMr.out.below hbe, (Nat.ne_of_lt HMr.out.lt).symm, HBr.out.trans (hbe.mono HBr.out.size)⟩
      clear hx hvu hru hrg hbe HMr HBr
      go_upto_region 5 with (refine wpList_load_range (by first | (go_simp; done) | rfl) 29 _ rfl _ _ rfl _ _ HRG.out undNw rfl infoNw ?_)
      clear HRG
      generalize wr.alloc (.cells #[.int .i64 x.kind, .int .i64 x.known, .int .i64 x.cast.id, .int .i64 x.cast.src, .slice a1 x.cast.rain.length q1] 29) = w2 at *
      generalize wr.heap.size = bN at *
      have c0 := rowN HA.out.row 0 (.int .i64 x.kind) rfl
      have c1 := rowN HA.out.row 1 (.int .i64 x.known) rfl
      by_cases t1 : x.kind < 0
      · go_wp2_with fail
        go_roundw
        case rel => exact ⟨k + 1, m, by omega, by go_num, best_skip HBM.out HX.out (fun hc => by unfold CountsN at hc; omega), HA.out.map, HA.out.below⟩
        case measure => simp [intOf]; omega
      by_cases t2 : (3 : Int) ≤ x.kind
      · go_wp2_with fail
        go_roundw
        case rel => exact ⟨k + 1, m, by omega, by go_num, best_skip HBM.out HX.out (fun hc => by unfold CountsN at hc; omega), HA.out.map, HA.out.below⟩
        case measure => simp [intOf]; omega
      by_cases t3 : h < x.known
      · go_wp2_with fail
        go_roundw
        case rel => exact ⟨k + 1, m, by omega, by go_num, best_skip HBM.out HX.out (fun hc => by unfold CountsN at hc; omega), HA.out.map, HA.out.below⟩
        case measure => simp [intOf]; omega
      have HCN : Hid (CountsN h x) := Lib.hid ⟨by omega, by omega, by omega⟩
      go_upto_region 6 with fail
      clear t1 t2 t3 c0 c1
      go_cut [8] (fun s8 wx => ∃ bC, s8 = .pointer (some ⟨bC, 0, none⟩) ∧ AS (codR xs vs) w bN w.heap.size #[.int .i64 x.kind, .int .i64 x.known, .int .i64 x.cast.id, .int .i64 x.cast.src, .slice a1 x.cast.rain.length q1] m wx ∧ wx.heap[bC]? = some (.cells #[.string ⟨(newsB x).toArray⟩, .int .i64 x.kind, .int .i64 x.known, .int .i64 x.cast.id, .int .i64 x.cast.src, .slice a1 x.cast.rain.length q1] 66 (0, 0)))
      case first =>
        refine wp_region_noPanic ?_
        refine wp_region_held_drew (S := fun w' => AS (codR xs vs) w bN w.heap.size #[.int .i64 x.kind, .int .i64 x.known, .int .i64 x.cast.id, .int .i64 x.cast.src, .slice a1 x.cast.rain.length q1] m w') (by kernel_rfl) (HA.out.step (Below.refl _ _).drew) (fun hHeld => ?_)
        refine' wpAnyH_take (i := 0) (v := _) (by simp only [List.getElem?_toArray, List.getElem?_cons_zero]; exact rfl) (by kernel_rfl) (by kernel_rfl) (by kernel_rfl) (fun _ _ _ h => h) (Or.inl ⟨by rfl, ?y0x3⟩) hHeld ?r0x3
        case y0x3 => (intro w hSw; refine exec_load_row 29 ?_ ?_ _ ?_ 29 _ _ _ (hSw.row) undNw rfl infoNw; rotate_left 1; exact rfl; exact rfl)
        try simp only [Act.put, List.setIfInBounds_toArray, List.set_cons_zero, List.set_cons_succ]
        refine' wpAnyH_take (i := 2) (v := _) (by simp only [List.getElem?_toArray, List.getElem?_cons_succ, List.getElem?_cons_zero]; exact rfl) (by kernel_rfl) (by kernel_rfl) (by kernel_rfl) (fun _ _ _ h => h) (Or.inl ⟨by rfl, ?y2x4⟩) hHeld ?r2x4
        case y2x4 => (intro w hSw; refine exec_load_row 29 ?_ ?_ _ ?_ 29 _ _ _ (hSw.row) undNw rfl infoNw; rotate_left 1; exact rfl; exact rfl)
        try simp only [Act.put, List.setIfInBounds_toArray, List.set_cons_zero, List.set_cons_succ]
        refine wpAnyH_ready (rs := [1, 4]) (by kernel_rfl) (by simp) ?_
        refine AllReadyH.cons (by simp only [List.getElem?_toArray, List.getElem?_cons_succ, List.getElem?_cons_zero]; exact rfl) (fun K hK => ?_) (AllReadyH.cons (by simp only [List.getElem?_toArray, List.getElem?_cons_succ, List.getElem?_cons_zero]; exact rfl) (fun K hK => ?_) AllReadyH.nil)
        · go_simp
          refine (cbytes_any x (.slice a1 x.cast.rain.length q1) _ (HU.out.below (stays_list stays_Span 2) hHeld.below) HNI.out.1 HNI.out.2 HFW.out.1 HFW.out.2).mono ?_
          rintro e w' ⟨rfl, hb⟩
          refine hK.out _ _ (hHeld.step hb) (fun hHeld => ?_)
          clear hK K hb
          try simp only [Act.put, List.setIfInBounds_toArray, List.set_cons_zero, List.set_cons_succ]
          refine' wpAnyH_take (i := 3) (v := _) (by simp only [List.getElem?_toArray, List.getElem?_cons_succ, List.getElem?_cons_zero]; exact rfl) (by kernel_rfl) (by kernel_rfl) (by kernel_rfl) (fun _ _ _ h => h) (Or.inl ⟨by rfl, ?y3x1⟩) hHeld ?r3x1
          case y3x1 => (intro w hSw; (try dsimp only at hSw); go_simp; try with_reducible rfl)
          try simp only [Act.put, List.setIfInBounds_toArray, List.set_cons_zero, List.set_cons_succ]
          refine wpAnyH_ready (rs := [4]) (by kernel_rfl) (by simp) ?_
          refine AllReadyH.cons (by simp only [List.getElem?_toArray, List.getElem?_cons_succ, List.getElem?_cons_zero]; exact rfl) (fun K hK => ?_) AllReadyH.nil
          go_simp
          obtain ⟨bC, hS1, hZ, hbe, hle, n0, n1⟩ := AS.allocZ (o := (.cells #[.string ⟨#[]⟩, .int .i64 0, .int .i64 0, .int .i64 0, .int .i64 0, .slice none 0 0] 66)) hHeld
          rw [← hbe]
          refine hK.out _ _ hS1 (fun hHeld => ?_)
          clear hK K hS1 hbe
          try simp only [Act.put, List.setIfInBounds_toArray, List.set_cons_zero, List.set_cons_succ]
          refine wpAnyH_ready (rs := [5]) (by kernel_rfl) (by simp) ?_
          refine AllReadyH.cons (by simp only [List.getElem?_toArray, List.getElem?_cons_succ, List.getElem?_cons_zero]; exact rfl) (fun K hK => ?_) AllReadyH.nil
          rw [if_pos (by rfl)]
          refine wp_store_row 66 _ _ rfl bC #[.string ⟨(newsB x).toArray⟩, .int .i64 x.kind, .int .i64 x.known, .int .i64 x.cast.id, .int .i64 x.cast.src, .slice a1 x.cast.rain.length q1] rfl rfl 66 #[.string ⟨#[]⟩, .int .i64 0, .int .i64 0, .int .i64 0, .int .i64 0, .slice none 0 0] hZ infoCd rfl (by simp [Value.oneCell']) ?_
          have hH := setRow_heap _ _ _ #[.string ⟨(newsB x).toArray⟩, .int .i64 x.kind, .int .i64 x.known, .int .i64 x.cast.id, .int .i64 x.cast.src, .slice a1 x.cast.rain.length q1] _ _ hZ
          refine hK.out _ _ (hHeld.setRow hle n0 n1) (fun hHeld => ?_)
          clear hK K
          try simp only [Act.put]
          refine wpAnyH_done (by kernel_rfl) ?_ _
          refine NoPanic.normal ?_
          go_wp2_with fail
          go_meet
          exact ⟨bC, rfl, hHeld, hH⟩
        · go_simp
          obtain ⟨bC, hS1, hZ, hbe, hle, n0, n1⟩ := AS.allocZd (o := (.cells #[.string ⟨#[]⟩, .int .i64 0, .int .i64 0, .int .i64 0, .int .i64 0, .slice none 0 0] 66)) hHeld
          rw [← hbe]
          refine hK.out _ _ hS1 (fun hHeld => ?_)
          clear hK K hS1 hbe
          try simp only [Act.put, List.setIfInBounds_toArray, List.set_cons_zero, List.set_cons_succ]
          refine wpAnyH_ready (rs := [1]) (by kernel_rfl) (by simp) ?_
          refine AllReadyH.cons (by simp only [List.getElem?_toArray, List.getElem?_cons_succ, List.getElem?_cons_zero]; exact rfl) (fun K hK => ?_) AllReadyH.nil
          go_simp
          refine (cbytes_any x (.slice a1 x.cast.rain.length q1) _ (HU.out.below (stays_list stays_Span 2) hHeld.below) HNI.out.1 HNI.out.2 HFW.out.1 HFW.out.2).mono ?_
          rintro e w' ⟨rfl, hb⟩
          have hZ := blk_below hZ hb (blk_lt hZ)
          refine hK.out _ _ (hHeld.step hb) (fun hHeld => ?_)
          clear hK K hb
          try simp only [Act.put, List.setIfInBounds_toArray, List.set_cons_zero, List.set_cons_succ]
          refine' wpAnyH_take (i := 3) (v := _) (by simp only [List.getElem?_toArray, List.getElem?_cons_succ, List.getElem?_cons_zero]; exact rfl) (by kernel_rfl) (by kernel_rfl) (by kernel_rfl) (fun _ _ _ h => h) (Or.inl ⟨by rfl, ?y3x2⟩) hHeld ?r3x2
          case y3x2 => (intro w hSw; (try dsimp only at hSw); go_simp; try with_reducible rfl)
          try simp only [Act.put, List.setIfInBounds_toArray, List.set_cons_zero, List.set_cons_succ]
          refine wpAnyH_ready (rs := [5]) (by kernel_rfl) (by simp) ?_
          refine AllReadyH.cons (by simp only [List.getElem?_toArray, List.getElem?_cons_succ, List.getElem?_cons_zero]; exact rfl) (fun K hK => ?_) AllReadyH.nil
          rw [if_pos (by rfl)]
          refine wp_store_row 66 _ _ rfl bC #[.string ⟨(newsB x).toArray⟩, .int .i64 x.kind, .int .i64 x.known, .int .i64 x.cast.id, .int .i64 x.cast.src, .slice a1 x.cast.rain.length q1] rfl rfl 66 #[.string ⟨#[]⟩, .int .i64 0, .int .i64 0, .int .i64 0, .int .i64 0, .slice none 0 0] hZ infoCd rfl (by simp [Value.oneCell']) ?_
          have hH := setRow_heap _ _ _ #[.string ⟨(newsB x).toArray⟩, .int .i64 x.kind, .int .i64 x.known, .int .i64 x.cast.id, .int .i64 x.cast.src, .slice a1 x.cast.rain.length q1] _ _ hZ
          refine hK.out _ _ (hHeld.setRow hle n0 n1) (fun hHeld => ?_)
          clear hK K
          try simp only [Act.put]
          refine wpAnyH_done (by kernel_rfl) ?_ _
          refine NoPanic.normal ?_
          go_wp2_with fail
          go_meet
          exact ⟨bC, rfl, hHeld, hH⟩
      obtain ⟨bC, rfl, hA, hC⟩ := hcut
      have HA := Lib.hid hA
      have HC := Lib.hid hC
      clear hA hC
      have c2 := rowN HA.out.row 2 (.int .i64 x.cast.id) rfl
      obtain ⟨v, ps, hlk, hR⟩ := run_look_ok (codR_zero xs vs) HA.out.map (t := x.cast.id) HNI.out.1.2.2.1
      cases hg : getM m x.cast.id with
      | none =>
        unfold ordAt at hR
        rw [hg] at hlk hR
        have hv : v = .agg #[.string ⟨#[]⟩, .int .i64 0, .int .i64 0, .int .i64 0, .int .i64 0, .slice none 0 0] := codR_zero_inv hR
        subst hv
        have HOR : Hid (getM m x.cast.id = none ∨ ∃ (j : Nat) (y : NewsV), getM m x.cast.id = some (ixO j) ∧ xs[j]? = some y ∧ LeB (newsB y) (newsB x)) := Lib.hid (Or.inl hg)
        clear hR hg
        go_upto_region 8 with fail
        have hst : Below wc.heap.size wc (wc.alloc (.cells #[.string ⟨#[]⟩, .int .i64 0, .int .i64 0, .int .i64 0, .int .i64 0, .slice none 0 0] 66)) := (Below.refl _ _).alloc (Nat.le_refl _) (.cells #[.string ⟨#[]⟩, .int .i64 0, .int .i64 0, .int .i64 0, .int .i64 0, .slice none 0 0] 66)
        have HO := Lib.hid (heap_alloc_new wc (.cells #[.string ⟨#[]⟩, .int .i64 0, .int .i64 0, .int .i64 0, .int .i64 0, .slice none 0 0] 66))
        have HA2 := Lib.hid (HA.out.step hst)
        have HC2 := Lib.hid (blk_below HC.out hst (blk_lt HC.out))
        clear hst
        clear hlk c2
        generalize wc.alloc (.cells #[.string ⟨#[]⟩, .int .i64 0, .int .i64 0, .int .i64 0, .int .i64 0, .slice none 0 0] 66) = w8 at *
        generalize wc.heap.size = bO at *
        obtain ⟨i, hi1, hi2⟩ := codR_mk (vs := vs) HX.out HVU.out
        have hxi : xs[i]? = some x := by
          obtain ⟨x2, u2, g1, g2, g3⟩ := hi2
          unfold codedV at g3
          simp only [Value.agg.injEq, Array.mk.injEq, List.cons.injEq, Value.string.injEq, ByteArray.mk.injEq] at g3
          have g4 : newsB x = newsB x2 := by simpa using g3.1
          rw [newsB_inj HNI.out (HI.out x2 (List.mem_of_getElem? g1)) g4]
          exact g1
        obtain ⟨w9, hup, hown, hgr⟩ := World.ownsMap.update (w := w8) (H := Unit) HA2.out.map lawI undMo (by have := HBM.out.len; unfold maxLen; omega) (keyOf_int_mk Try.underlying3 (i64_mk HNI.out.1.2.2.1)) hi1
        rw [omD_put] at hown
        have HMN := Lib.hid (MapAt.tight hown)
        have HBW := Lib.hid (HA2.out.below.grown hgr HA2.out.below.size (fun q e => by cases e; exact Nat.le_refl _))
        have HBN := Lib.hid (best_put HBM.out HX.out HCN.out hxi HOR.out)
        have d2 := rowN HA2.out.row 2 (.int .i64 x.cast.id) rfl
        clear hown hgr hi2 hxi
        unfold codedV at hup
        go_wp2_with (refine wpList_load_rowW (by first | (go_simp; done) | rfl) 66 _ rfl _ rfl 66 _ _ _ HC2.out undCd rfl infoCd ?_)
        go_roundw
        case rel => exact ⟨k + 1, _, by omega, by go_num, HBN.out, HMN.out, HBW.out⟩
        case measure => simp [intOf]; omega
      | some o =>
        obtain ⟨j, y, hoj, hyj, hyid, hyc, hybest⟩ := HBM.out.mem _ (get_mem hg)
        simp only at hoj
        subst hoj
        unfold ordAt at hR
        rw [hg] at hlk hR
        obtain ⟨y', uy, hy1, hy2, hv⟩ := codR_inv hR
        rw [hyj] at hy1
        cases hy1
        obtain ⟨u2, b2, o2, g1, -, -, -, g2⟩ := HS.out.2 j y hyj
        rw [hy2] at g1
        cases g1
        obtain ⟨a2, q2, rfl, -, -⟩ := g2.slice
        unfold codedV at hv
        subst hv
        clear g2
        have HG := Lib.hid hg
        have HYJ := Lib.hid hyj
        clear hR hg hyj hyid hyc hybest hy2
        go_upto_region 8 with fail
        have hst : Below wc.heap.size wc (wc.alloc (.cells #[.string ⟨(newsB y).toArray⟩, .int .i64 y.kind, .int .i64 y.known, .int .i64 y.cast.id, .int .i64 y.cast.src, .slice a2 y.cast.rain.length q2] 66)) := (Below.refl _ _).alloc (Nat.le_refl _) (.cells #[.string ⟨(newsB y).toArray⟩, .int .i64 y.kind, .int .i64 y.known, .int .i64 y.cast.id, .int .i64 y.cast.src, .slice a2 y.cast.rain.length q2] 66)
        have HO := Lib.hid (heap_alloc_new wc (.cells #[.string ⟨(newsB y).toArray⟩, .int .i64 y.kind, .int .i64 y.known, .int .i64 y.cast.id, .int .i64 y.cast.src, .slice a2 y.cast.rain.length q2] 66))
        have HA2 := Lib.hid (HA.out.step hst)
        have HC2 := Lib.hid (blk_below HC.out hst (blk_lt HC.out))
        clear hst
        clear hlk c2
        generalize wc.alloc (.cells #[.string ⟨(newsB y).toArray⟩, .int .i64 y.kind, .int .i64 y.known, .int .i64 y.cast.id, .int .i64 y.cast.src, .slice a2 y.cast.rain.length q2] 66) = w8 at *
        generalize wc.heap.size = bO at *
        have k0 := rowN HC2.out 0 (.string ⟨(newsB x).toArray⟩) rfl
        have o0 := rowN HO.out 0 (.string ⟨(newsB y).toArray⟩) rfl
        rcases leB_total (newsB y) (newsB x) with hle | hgt
        · have HOR : Hid (getM m x.cast.id = none ∨ ∃ (j : Nat) (y : NewsV), getM m x.cast.id = some (ixO j) ∧ xs[j]? = some y ∧ LeB (newsB y) (newsB x)) := Lib.hid (Or.inr ⟨j, y, HG.out, HYJ.out, hle⟩)
          rcases hle with e | e
          · have hls : Op.bytesLess (newsB y) (newsB x) = false := less_is (by rw [e]; exact decide_eq_false (List.lt_irrefl _))
            have heq := beq_is (decide_eq_true e)
            clear e
            go_upto_region 9 with fail
            clear hls heq k0 o0
            obtain ⟨i, hi1, hi2⟩ := codR_mk (vs := vs) HX.out HVU.out
            have hxi : xs[i]? = some x := by
              obtain ⟨x2, u2, g1, g2, g3⟩ := hi2
              unfold codedV at g3
              simp only [Value.agg.injEq, Array.mk.injEq, List.cons.injEq, Value.string.injEq, ByteArray.mk.injEq] at g3
              have g4 : newsB x = newsB x2 := by simpa using g3.1
              rw [newsB_inj HNI.out (HI.out x2 (List.mem_of_getElem? g1)) g4]
              exact g1
            obtain ⟨w9, hup, hown, hgr⟩ := World.ownsMap.update (w := w8) (H := Unit) HA2.out.map lawI undMo (by have := HBM.out.len; unfold maxLen; omega) (keyOf_int_mk Try.underlying3 (i64_mk HNI.out.1.2.2.1)) hi1
            rw [omD_put] at hown
            have HMN := Lib.hid (MapAt.tight hown)
            have HBW := Lib.hid (HA2.out.below.grown hgr HA2.out.below.size (fun q e => by cases e; exact Nat.le_refl _))
            have HBN := Lib.hid (best_put HBM.out HX.out HCN.out hxi HOR.out)
            have d2 := rowN HA2.out.row 2 (.int .i64 x.cast.id) rfl
            clear hown hgr hi2 hxi
            unfold codedV at hup
            go_wp2_with (refine wpList_load_rowW (by first | (go_simp; done) | rfl) 66 _ rfl _ rfl 66 _ _ _ HC2.out undCd rfl infoCd ?_)
            go_roundw
            case rel => exact ⟨k + 1, _, by omega, by go_num, HBN.out, HMN.out, HBW.out⟩
            case measure => simp [intOf]; omega
          · have hls : Op.bytesLess (newsB y) (newsB x) = true := less_is (decide_eq_true e)
            have heq := beq_is (decide_eq_false (fun e2 : newsB y = newsB x => by rw [e2] at e; exact List.lt_irrefl _ e))
            clear e
            go_upto_region 9 with fail
            clear hls heq k0 o0
            obtain ⟨i, hi1, hi2⟩ := codR_mk (vs := vs) HX.out HVU.out
            have hxi : xs[i]? = some x := by
              obtain ⟨x2, u2, g1, g2, g3⟩ := hi2
              unfold codedV at g3
              simp only [Value.agg.injEq, Array.mk.injEq, List.cons.injEq, Value.string.injEq, ByteArray.mk.injEq] at g3
              have g4 : newsB x = newsB x2 := by simpa using g3.1
              rw [newsB_inj HNI.out (HI.out x2 (List.mem_of_getElem? g1)) g4]
              exact g1
            obtain ⟨w9, hup, hown, hgr⟩ := World.ownsMap.update (w := w8) (H := Unit) HA2.out.map lawI undMo (by have := HBM.out.len; unfold maxLen; omega) (keyOf_int_mk Try.underlying3 (i64_mk HNI.out.1.2.2.1)) hi1
            rw [omD_put] at hown
            have HMN := Lib.hid (MapAt.tight hown)
            have HBW := Lib.hid (HA2.out.below.grown hgr HA2.out.below.size (fun q e => by cases e; exact Nat.le_refl _))
            have HBN := Lib.hid (best_put HBM.out HX.out HCN.out hxi HOR.out)
            have d2 := rowN HA2.out.row 2 (.int .i64 x.cast.id) rfl
            clear hown hgr hi2 hxi
            unfold codedV at hup
            go_wp2_with (refine wpList_load_rowW (by first | (go_simp; done) | rfl) 66 _ rfl _ rfl 66 _ _ _ HC2.out undCd rfl infoCd ?_)
            go_roundw
            case rel => exact ⟨k + 1, _, by omega, by go_num, HBN.out, HMN.out, HBW.out⟩
            case measure => simp [intOf]; omega
        · have HBN := Lib.hid (best_keep HBM.out HX.out HG.out HYJ.out (Or.inr hgt))
          have hls : Op.bytesLess (newsB y) (newsB x) = false := less_is (decide_eq_false (fun e => List.lt_irrefl _ (List.lt_trans e hgt)))
          have heq := beq_is (decide_eq_false (fun e2 : newsB y = newsB x => by rw [e2] at hgt; exact List.lt_irrefl _ hgt))
          have HMN := Lib.hid HA2.out.map
          have HBW := Lib.hid HA2.out.below
          clear hgt
          go_wp2_with fail
          go_roundw
          case rel => exact ⟨k + 1, _, by omega, by go_num, HBN.out, HMN.out, HBW.out⟩
          case measure => simp [intOf]; omega
    · obtain rfl : k = xs.length := by omega
      clear hlt hk
      have hml := HBM.out.len
      go_wp2_with fail
      refine (keys_any w.heap.size _).mono ?_
      rintro e w1 ⟨rfl, rfl⟩
      go_wp2_with fail
      refine (sorted_any w.heap.size m wr HMr.out HBM.out.sorted (by omega)).mono ?_
      rintro e w2 ⟨v, rfl, hown, hb⟩
      have hml2 : (m.map fun p : Int × OV => p.1).length = m.length := List.length_map _
      have HK : Hid (CArg (Value.int .i64) v (m.map fun p => p.1) w2) := Lib.hid (CArg.of_owns (base := wr.heap.size) (n := m.length) hml2 (by rw [List.map_map]; exact hown))
      have HB2 := Lib.hid (HBr.out.trans (hb.mono HBr.out.size))
      have HM2 := Lib.hid (HMr.out.below hb)
      obtain ⟨av, cv, rfl, hcel⟩ := HK.out
      have HCE := Lib.hid hcel
      have HML := Lib.hid hml2
      rw [hml2]
      clear hml2 hown hb HMr HBr HK hcel
      go_wp2_with fail
      go_loopw [11, 67] (fun tv iv wx => ∃ k : Nat, k ≤ m.length ∧ iv = .int .i64 k ∧ wx.ownsRow w2.heap.size 27 3 tv (keepE (entsOf xs vs (m.take k))).length ((keepE (entsOf xs vs (m.take k))).flatMap cellsK) ∧ Below w2.heap.size w2 wx) (fun _ iv _ => m.length - (intOf iv).toNat)
      case atStart => exact ⟨0, Nat.zero_le _, rfl, World.ownsRow_nil _ _ _ _, Below.refl _ _⟩
      case round =>
        obtain ⟨k, hk, rfl, hown, hB⟩ := hrel
        obtain ⟨at3, ct3, hsl⟩ := owns_slice hown
        subst hsl
        have HB := Lib.hid hB
        have HW := Lib.hid hown
        clear hB hown
        by_cases hlt : k < m.length
        · have H1 : Hid (m[k]? = some m[k]) := Lib.hid (List.getElem?_eq_getElem hlt)
          obtain ⟨p, hap, hbp, hcp⟩ := HCE.out k m[k].1 (by rw [List.getElem?_map, H1.out]; rfl)
          subst hap
          have hcell := (HB.out.cell hbp).trans hcp
          have hmem := List.mem_of_getElem? H1.out
          obtain ⟨j, x, hoj, hxj, hid, hcn, -⟩ := HBM.out.mem _ hmem
          have hgt := mem_get HBM.out.sorted hmem
          have HMx := Lib.hid (HM2.out.below HB.out)
          obtain ⟨u0, b0, o0, hvu, -, -, -, hru⟩ := HS.out.2 j x hxj
          obtain ⟨a1, q1, rfl, -, -⟩ := hru.slice
          have hpi : I64 m[k].1 := by rw [← hid]; exact (HI.out x (List.mem_of_getElem? hxj)).1.2.2.1
          obtain ⟨v, ps, hlk, hR⟩ := run_look (codR_zero xs vs) HMx.out (t := m[k].1) hpi
          unfold ordAt at hR
          rw [hgt, hoj] at hR
          obtain ⟨x', u', g1, g2, hv⟩ := codR_inv hR
          rw [hxj] at g1
          cases g1
          rw [hvu] at g2
          cases g2
          unfold codedV at hv
          subst hv
          have HET : Hid (entsOf xs vs (m.take (k + 1)) = entsOf xs vs (m.take k) ++ [(x, .slice a1 x.cast.rain.length q1)]) := Lib.hid (by
            unfold entsOf
            rw [List.take_add_one, H1.out, Option.toList_some, List.map_append]
            congr 1
            show [entOf xs vs m[k]] = _
            unfold entOf
            rw [hoj]
            unfold ixO
            simp only [Int.toNat_natCast, hxj, hvu, Option.getD_some])
          have HXJ := Lib.hid hxj
          clear hbp hcp hmem hoj hid hcn hgt hvu hru hpi hR hxj
          have hkn := keepE_len (entsOf xs vs (m.take k))
          generalize m[k] = mk at *
          obtain ⟨mid, mo⟩ := mk
          dsimp only at hcell hlk
          have hfn := field_news x (.slice a1 x.cast.rain.length q1)
          have hNb : Below wr.heap.size wr (wr.alloc (.cells #[.int .i64 x.kind, .int .i64 x.known, .int .i64 x.cast.id, .int .i64 x.cast.src, .slice a1 x.cast.rain.length q1] 29)) := (Below.refl _ _).alloc (Nat.le_refl _) (.cells #[.int .i64 x.kind, .int .i64 x.known, .int .i64 x.cast.id, .int .i64 x.cast.src, .slice a1 x.cast.rain.length q1] 29)
          have HN := Lib.hid (heap_alloc_new wr (.cells #[.int .i64 x.kind, .int .i64 x.known, .int .i64 x.cast.id, .int .i64 x.cast.src, .slice a1 x.cast.rain.length q1] 29))
          have HW2 := Lib.hid (HW.out.alloc (.cells #[.int .i64 x.kind, .int .i64 x.known, .int .i64 x.cast.id, .int .i64 x.cast.src, .slice a1 x.cast.rain.length q1] 29))
          have HB3 := Lib.hid (HB.out.alloc HB.out.size (.cells #[.int .i64 x.kind, .int .i64 x.known, .int .i64 x.cast.id, .int .i64 x.cast.src, .slice a1 x.cast.rain.length q1] 29))
          clear hNb
          go_upto_region 16 with fail
          clear hlk hfn hcell
          generalize wr.alloc (.cells #[.int .i64 x.kind, .int .i64 x.known, .int .i64 x.cast.id, .int .i64 x.cast.src, .slice a1 x.cast.rain.length q1] 29) = w3 at *
          generalize wr.heap.size = bN at *
          have c0 := rowN HN.out 0 (.int .i64 x.kind) rfl
          by_cases hk2 : x.kind = 2
          · have hb2 : (x.kind != 2) = false := by rw [hk2]; rfl
            have HW3 : Hid (w3.ownsRow w2.heap.size 27 3 (.slice at3 (keepE (entsOf xs vs (m.take k))).length ct3) (keepE (entsOf xs vs (m.take (k + 1)))).length ((keepE (entsOf xs vs (m.take (k + 1)))).flatMap cellsK)) := Lib.hid (by rw [HET.out, keepE_skip _ _ hk2]; exact HW2.out)
            go_wp2_with fail
            go_roundw
            case rel => exact ⟨k + 1, by omega, by go_num, HW3.out, HB3.out⟩
            case measure => simp [intOf]; omega
          · have hb2 : (x.kind != 2) = true := by rw [bne_iff_ne]; exact hk2
            by_cases h32 : (keepE (entsOf xs vs (m.take k))).length < 32
            · have HAD := Lib.hid (keepE_add (entsOf xs vs (m.take k)) (x, .slice a1 x.cast.rain.length q1) hk2 h32)
              have t32 : ((keepE (entsOf xs vs (m.take k))).length : Int) < 32 := by omega
              have hnew : ∀ i u, (cellsK (x, .slice a1 x.cast.rain.length q1))[i]? = some u → (w3.alloc (.cells #[.int .i64 x.cast.id, .int .i64 x.cast.src, .slice a1 x.cast.rain.length q1] 27)).cell? ((⟨w3.heap.size, 0, none⟩ : Addr).add i) = some u := fun i u hi => by
                rw [Addr.add_mid, Nat.zero_add, cell_of_row _ _ _ _ _ _ (heap_alloc_new w3 (.cells #[.int .i64 x.cast.id, .int .i64 x.cast.src, .slice a1 x.cast.rain.length q1] 27)), ← Array.getElem?_toList]
                exact hi
              have HW4 := Lib.hid (HW2.out.alloc (.cells #[.int .i64 x.cast.id, .int .i64 x.cast.src, .slice a1 x.cast.rain.length q1] 27))
              have HB4 := Lib.hid (HB3.out.alloc HB3.out.size (.cells #[.int .i64 x.cast.id, .int .i64 x.cast.src, .slice a1 x.cast.rain.length q1] 27))
              have HRK := Lib.hid (range3 (rowN HN.out 2 (.int .i64 x.cast.id) rfl) (rowN HN.out 3 (.int .i64 x.cast.src) rfl) (rowN HN.out 4 (.slice a1 x.cast.rain.length q1) rfl))
              go_wp2_with (first | (refine wpList_load_range (by first | (go_simp; done) | rfl) 27 _ rfl _ _ rfl _ _ HRK.out undKa rfl infoKa ?_) | (at_builtin; refine Hid.out ?_))
              refine Lib.hid ?_
              refine wpList_append_own _ rfl _ _ 30 rfl w2.heap.size 27 ic zc 3 ic.bytes undCs hic hzc hsz rfl hcz (by decide) _ (keepE (entsOf xs vs (m.take k))).length _ rfl HW4.out ⟨w3.heap.size, 0, none⟩ 1 1 (cellsK (x, .slice a1 x.cast.rain.length q1)) rfl rfl hnew (by unfold cellsK; simp [Value.oneCell']) (by unfold maxLen; omega) (Nat.le_trans (Nat.mul_le_mul_right _ (show (keepE (entsOf xs vs (m.take k))).length + 1 ≤ 1024 by omega)) (by rw [Nat.mul_comm]; exact hbc)) HB4.out.size ?_
              intro v' w5 hown5 hgr5 _
              have HW5 : Hid (w5.ownsRow w2.heap.size 27 3 v' (keepE (entsOf xs vs (m.take (k + 1)))).length ((keepE (entsOf xs vs (m.take (k + 1)))).flatMap cellsK)) := Lib.hid (by
                rw [HET.out, HAD.out, List.length_append, List.flatMap_append]
                simpa using hown5)
              have HB5 : Hid (Below w2.heap.size w2 w5) := Lib.hid (HB4.out.grown hgr5 HB4.out.size (fun q e => (HW4.out.lt q e).1))
              clear hown5 hgr5 hnew HW4 HB4 t32 hb2 c0
              go_wp2_with fail
              go_roundw
              case rel => exact ⟨k + 1, by omega, by go_num, HW5.out, HB5.out⟩
              case measure => simp [intOf]; omega
            · have t32 : ¬ ((keepE (entsOf xs vs (m.take k))).length : Int) < 32 := by omega
              have HW3 : Hid (w3.ownsRow w2.heap.size 27 3 (.slice at3 (keepE (entsOf xs vs (m.take k))).length ct3) (keepE (entsOf xs vs (m.take (k + 1)))).length ((keepE (entsOf xs vs (m.take (k + 1)))).flatMap cellsK)) := Lib.hid (by rw [HET.out, keepE_full _ _ (by omega)]; exact HW2.out)
              go_wp2_with fail
              go_roundw
              case rel => exact ⟨k + 1, by omega, by go_num, HW3.out, HB3.out⟩
              case measure => simp [intOf]; omega
        · obtain rfl : k = m.length := by omega
          rw [List.take_length] at HW
          have HBG := Lib.hid (big_of (vs := vs) HBM.out)
          have hbase : Below w.heap.size w wr := HB2.out.trans (HB.out.mono HB2.out.size)
          have HL : Hid (∀ q ∈ keepE (entsOf xs vs m), ∃ j : Nat, xs[j]? = some q.1 ∧ vs[j]? = some q.2) := Lib.hid (fun q hq => by
            have hq2 : q ∈ entsOf xs vs m := (List.mem_filter.1 (List.mem_of_mem_take hq)).1
            obtain ⟨p, hp, rfl⟩ := List.mem_map.1 hq2
            obtain ⟨j, x, hoj, hxj, _⟩ := HBM.out.mem p hp
            obtain ⟨u0, b0, o0, hvu, -, -, -, hru⟩ := HS.out.2 j x hxj
            have e : entOf xs vs p = (x, u0) := by
              unfold entOf
              rw [hoj]
              unfold ixO
              simp only [Int.toNat_natCast, hxj, hvu, Option.getD_some]
            rw [e]
            exact ⟨j, hxj, hvu⟩)
          have HOW := Lib.hid (row_base HW.out HB2.out.size)
          have HBa := Lib.hid hbase
          clear hbase hlt hk
          go_wp2_with fail
          go_ret
          refine ⟨_, _, keepE (entsOf xs vs m), rfl, HBG.out, keepE_news _, HL.out, ?_, HBa.out⟩
          rw [List.take_length]
          exact HOW.out
/-- the same, where nothing is asked of blocks -/
theorem adm_any (xs : List NewsV) (vs : List Value) (a : Option Addr) (c : Nat) (h : Int) (w : World) (hS : NewsS xs vs a w) (hI : ∀ x ∈ xs, NewsI x) (hF : ∀ x ∈ xs, FewN x) (hl : xs.length ≤ 100) :
    Calls Try.prog 11 #[.slice a xs.length c, .int .i64 h] w fun e w' => ∃ (big : List NewsV) (v : Value), e = .returned v ∧ IsBig h xs big ∧ LArg RCast 3 v ((keepN big).map (·.cast)) w' ∧ Below w.heap.size w w' := by
  refine (adm_own xs vs a c h w hS hI hF hl).mono ?_
  rintro e w' ⟨big, v, ks, rfl, hb, hks, hm, how, hbe⟩
  refine ⟨big, v, rfl, hb, ?_, hbe⟩
  rw [← hks, List.map_map]
  refine larg_casts how (fun q hq => ?_)
  obtain ⟨j, h1, h2⟩ := hm q hq
  obtain ⟨u, _, _, e1, _, _, _, e2⟩ := hS.2 j q.1 h1
  rw [h2] at e1
  cases e1
  exact ⟨e2.below (stays_list stays_Span 2) hbe, (hI q.1 (List.mem_of_getElem? h1)).1⟩
end Go.Proofs.Ytleiiedacachjaa
