/- Texts merged: CChain CEq -/
import Derived.OwnWalk
import Derived.Outline
import Derived.LoopN
import Derived.Test.YtepidpegoihllaaGreatDoorCClos
import Derived.Test.YtepidpegoihllaaGreatDoorWJoin
import Derived.Laws.StructEq
import Derived.Test.YtepidpegoihllaaGreatDoorCRead
/- claim.Chain. -/
namespace Go.Proofs.YtepidpegoihllaaGreatDoor
open Go.RowKit
def q1 (ps : List Int) (c : CV) : Bool := decide (0 ≤ c.office ∧ c.office < ps.length)
def q2 (ps : List Int) (c : CV) : Bool := match ps[c.office.toNat]? with | none => false | some x => decide (VouchedC x c)
def q3 (i : Nat) (c : CV) : Bool := decide (0 < i ∨ c.prev = ⟨#[]⟩)
def q4 (l : List CV) (i : Nat) (c : CV) : Bool := if i = 0 then true else match l[i - 1]?, l[0]? with | some d, some f => decide (c.office = f.office ∧ d.hour < c.hour) | _, _ => false
def q5 (l : List CV) (i : Nat) (c : CV) : Bool := if i = 0 then true else match l[i - 1]? with | some d => decide (c.prev = digB d) | _ => false
/-- the conditions of a claim at its place -/
def okCh (ps : List Int) (l : List CV) (i : Nat) : Bool :=
  match l[i]? with
  | none => false
  | some c => q1 ps c && (q2 ps c && (q3 i c && (q4 l i c && q5 l i c)))
/-- how many claims Chain accepts -/
def IsCh (ps : List Int) (l : List CV) (n : Nat) : Prop := n ≤ l.length ∧ (∀ j, j < n → okCh ps l j = true) ∧ (n = l.length ∨ okCh ps l n = false)
theorem ok_here {ps : List Int} {l : List CV} {i : Nat} {c : CV} (h : l[i]? = some c) : okCh ps l i = (q1 ps c && (q2 ps c && (q3 i c && (q4 l i c && q5 l i c)))) := by
  unfold okCh
  rw [h]
theorem owns_under {w w' : World} {base size n : Nat} {e : TypeId} {v : Value} {xs : List Value} (h : w.ownsRow base e size v n xs) (hb : Below w.heap.size w w') : w'.ownsRow base e size v n xs :=
  owns_up h hb
theorem clos2_all (ps : List Int) (l : List CV) (Pb Lb : Nat) (vp : Value) (al : Option Addr) (ln lc : Nat) (i : Nat) (c : CV) (w : World) (hX : ChCtx ps l Pb Lb vp (.slice al ln lc) w) (hc : l[i]? = some c) (h1 : q1 ps c = true) (hp : c.prev.size ≤ 900) (hl : l.length ≤ 100) (hps : ps.length ≤ 100) (hg : Glob w) (hml : MLen w) :
    Calls Tryz.prog 50 #[.int .i64 i, .pointer (some ⟨Pb, 0, none⟩), .pointer (some ⟨Lb, 0, none⟩)] w fun e w' => e = .returned (.bool (q2 ps c)) ∧ Below w.heap.size w w' := by
  have h := of_decide_eq_true h1
  obtain ⟨x, hx⟩ : ∃ x, ps[c.office.toNat]? = some x := ⟨_, List.getElem?_eq_getElem (by omega)⟩
  have e : q2 ps c = decide (VouchedC x c) := by unfold q2; rw [hx]
  rw [e]
  exact clos2_any ps l Pb Lb vp al ln lc i c.office.toNat c x w hX hc (by omega) hx hp hl hps hg hml
theorem clos4_all (ps : List Int) (l : List CV) (Pb Lb : Nat) (vp : Value) (al : Option Addr) (ln lc : Nat) (i : Nat) (c : CV) (w : World) (hX : ChCtx ps l Pb Lb vp (.slice al ln lc) w) (hc : l[i]? = some c) (hl : l.length ≤ 100) :
    Calls Tryz.prog 52 #[.int .i64 i, .pointer (some ⟨Lb, 0, none⟩)] w fun e w' => e = .returned (.bool (q4 l i c)) ∧ Below w.heap.size w w' := by
  cases i with
  | zero => exact clos4_zero Lb w
  | succ m =>
    have hil := (List.getElem?_eq_some_iff.1 hc).1
    obtain ⟨d, hd⟩ : ∃ x, l[m]? = some x := ⟨_, List.getElem?_eq_getElem (by omega)⟩
    obtain ⟨f, hf⟩ : ∃ x, l[0]? = some x := ⟨_, List.getElem?_eq_getElem (by omega)⟩
    have e : q4 l (m + 1) c = decide (c.office = f.office ∧ d.hour < c.hour) := by
      unfold q4
      rw [if_neg (by omega), Nat.add_sub_cancel, hd, hf]
    rw [e]
    exact clos4_pos ps l Pb Lb vp al ln lc (m + 1) m c d f w hX rfl hc hd hf hl
theorem clos5_all (ps : List Int) (l : List CV) (Pb Lb : Nat) (vp : Value) (al : Option Addr) (ln lc : Nat) (i : Nat) (c : CV) (w : World) (hX : ChCtx ps l Pb Lb vp (.slice al ln lc) w) (hc : l[i]? = some c) (hpr : ∀ c ∈ l, c.prev.size ≤ 900) (hl : l.length ≤ 100) (hg : Glob w) (hml : MLen w) :
    Calls Tryz.prog 53 #[.int .i64 i, .pointer (some ⟨Lb, 0, none⟩)] w fun e w' => e = .returned (.bool (q5 l i c)) ∧ Below w.heap.size w w' := by
  cases i with
  | zero => exact clos5_zero Lb w
  | succ m =>
    have hil := (List.getElem?_eq_some_iff.1 hc).1
    obtain ⟨d, hd⟩ : ∃ x, l[m]? = some x := ⟨_, List.getElem?_eq_getElem (by omega)⟩
    have e : q5 l (m + 1) c = decide (c.prev = digB d) := by
      unfold q5
      rw [if_neg (by omega), Nat.add_sub_cancel, hd]
    rw [e]
    exact clos5_pos ps l Pb Lb vp al ln lc (m + 1) m c d w hX rfl hc hd (hpr d (List.mem_of_getElem? hd)) hl hg hml
theorem own_ne {w : World} {base size n po : Nat} {e t : TypeId} {v : Value} {xs : List Value} {cs : Array Value} {fr : Nat × Nat} (h : w.ownsRow base e size v n xs) (hp : w.heap[po]? = some (.cells cs t fr)) (hne : t ≠ e) : v.ownBlock ≠ some po := by
  intro he
  rcases h.2 with ⟨rfl, _⟩ | ⟨g, cap, cur, rfl, _, hg, _⟩
  · simp [Value.ownBlock] at he
  · simp only [Value.ownBlock, Option.some.injEq] at he
    rw [he, hp] at hg
    simp only [Option.some.injEq, Obj.cells.injEq] at hg
    exact hne hg.2.1
theorem undCl : Tryz.prog.underlying 54 = some (.slice 43) := by kernel_rfl
theorem infoCl : ∃ i z, Tryz.prog.info? 43 = some i ∧ i.size = 8 ∧ i.zero = some z ∧ z.cells.size = 8 ∧ i.bytes * 1024 ≤ 140737488355328 := by
  have h : (Tryz.prog.info? 43).map (fun i => (i.size, i.zero.map (fun z => z.cells.size), decide (i.bytes * 1024 ≤ 140737488355328))) = some (8, some 8, true) := by kernel_rfl
  cases hi : Tryz.prog.info? 43 with
  | none => rw [hi] at h; cases h
  | some i =>
    rw [hi] at h
    simp only [Option.map_some, Option.some.injEq, Prod.mk.injEq] at h
    obtain ⟨h1, h2, h3⟩ := h
    cases hz : i.zero with
    | none => rw [hz] at h2; cases h2
    | some z =>
      rw [hz] at h2
      simp only [Option.map_some, Option.some.injEq] at h2
      exact ⟨i, z, rfl, h1, hz, h2, of_decide_eq_true h3⟩
theorem cellsC_one (c : CV) : ∀ u ∈ cellsC c, u.oneCell' = true := by
  intro u hu
  simp only [cellsC, List.mem_cons, List.not_mem_nil, or_false] at hu
  rcases hu with rfl | rfl | rfl | rfl | rfl | rfl | rfl | rfl <;> rfl
theorem take_row {l : List CV} {k : Nat} {c : CV} (h : l[k]? = some c) : (l.take (k + 1)).flatMap cellsC = (l.take k).flatMap cellsC ++ cellsC c := by
  rw [List.take_add_one, h, List.flatMap_append, Option.toList_some, List.flatMap_singleton]
set_option maxRecDepth 100000 in
set_option maxHeartbeats 8000000 in
theorem chain_any (ps : List Int) (l : List CV) (vp vl : Value) (w : World) (hP : LArg RInt 1 vp ps w) (hL : LArg RC 8 vl l w) (hps : ps.length ≤ 100) (hl : l.length ≤ 100) (hpr : ∀ c ∈ l, c.prev.size ≤ 900) (hg : Glob w) (hml : MLen w) :
    Calls Tryz.prog 14 #[vp, vl] w fun e w' => ∃ n v, IsCh ps l n ∧ e = .returned (.tuple #[v, .bool (decide (n = l.length))]) ∧ w'.ownsRow w.heap.size 43 8 v n ((l.take n).flatMap cellsC) ∧ Below w.heap.size w w' := by
  obtain ⟨al, lc, rfl, hlc, hlm⟩ := hL.slice
  obtain ⟨ap, pc, rfl, hpc, hpm⟩ := hP.slice
  obtain ⟨ic, zc, hic, hsz, hzc, hcz, hbc⟩ := infoCl
  obtain ⟨r0, r1, r2, rb⟩ := three_rows (w := w) (A := .cells #[.slice ap ps.length pc] 29) (B := .cells #[.slice al l.length lc] 54) (C := .cells #[.func (.func 49) #[] #[.pointer (some ⟨(w.heap.size + 1), 0, none⟩), .pointer (some ⟨w.heap.size, 0, none⟩)], .func (.func 50) #[] #[.pointer (some ⟨w.heap.size, 0, none⟩), .pointer (some ⟨(w.heap.size + 1), 0, none⟩)], .func (.func 51) #[] #[.pointer (some ⟨(w.heap.size + 1), 0, none⟩)], .func (.func 52) #[] #[.pointer (some ⟨(w.heap.size + 1), 0, none⟩)], .func (.func 53) #[] #[.pointer (some ⟨(w.heap.size + 1), 0, none⟩)]] 95)
  have hX0 : ChCtx ps l w.heap.size (w.heap.size + 1) (.slice ap ps.length pc) (.slice al l.length lc) _ := ⟨r0, r1, hP.below stays_int rb, hL.below stays_RC rb⟩
  have HX0 := Lib.hid hX0
  have HF0 := Lib.hid r2
  have HB0 := Lib.hid rb
  have HG := Lib.hid hg
  have HM := Lib.hid hml
  have HPR := Lib.hid hpr
  have HLP := Lib.hid hP
  have HLL := Lib.hid hL
  clear hg hml hP hL hpr r0 r1 r2 rb hX0
  go_enter Tryz.func14, Tryz.ntmps14
  go_wp2_with fail
  generalize ((w.alloc (.cells #[.slice ap ps.length pc] 29)).alloc (.cells #[.slice al l.length lc] 54)).alloc (.cells #[.func (.func 49) #[] #[.pointer (some ⟨(w.heap.size + 1), 0, none⟩), .pointer (some ⟨w.heap.size, 0, none⟩)], .func (.func 50) #[] #[.pointer (some ⟨w.heap.size, 0, none⟩), .pointer (some ⟨(w.heap.size + 1), 0, none⟩)], .func (.func 51) #[] #[.pointer (some ⟨(w.heap.size + 1), 0, none⟩)], .func (.func 52) #[] #[.pointer (some ⟨(w.heap.size + 1), 0, none⟩)], .func (.func 53) #[] #[.pointer (some ⟨(w.heap.size + 1), 0, none⟩)]] 95) = w3 at *
  go_loopw [7, 20] (fun v iv wr => ∃ k : Nat, k ≤ l.length ∧ iv = .int .i64 k ∧ (∀ j, j < k → okCh ps l j = true) ∧ wr.ownsRow w.heap.size 43 8 v k ((l.take k).flatMap cellsC) ∧ ChCtx ps l w.heap.size (w.heap.size + 1) (.slice ap ps.length pc) (.slice al l.length lc) wr ∧ wr.heap[w.heap.size + 1 + 1]? = some (.cells #[.func (.func 49) #[] #[.pointer (some ⟨(w.heap.size + 1), 0, none⟩), .pointer (some ⟨w.heap.size, 0, none⟩)], .func (.func 50) #[] #[.pointer (some ⟨w.heap.size, 0, none⟩), .pointer (some ⟨(w.heap.size + 1), 0, none⟩)], .func (.func 51) #[] #[.pointer (some ⟨(w.heap.size + 1), 0, none⟩)], .func (.func 52) #[] #[.pointer (some ⟨(w.heap.size + 1), 0, none⟩)], .func (.func 53) #[] #[.pointer (some ⟨(w.heap.size + 1), 0, none⟩)]] 95) ∧ Below w.heap.size w wr) (fun _ iv _ => l.length - (Go.RowKit.intOf iv).toNat)
  case atStart => exact ⟨0, by omega, rfl, (fun j hj => by omega), World.ownsRow_nil _ _ _ _, HX0.out, HF0.out, HB0.out⟩
  case round =>
    obtain ⟨k, hk, rfl, hok, hown, hx, hf, hb⟩ := hrel
    have HOK := Lib.hid hok
    have HO := Lib.hid hown
    have HX := Lib.hid hx
    have HF := Lib.hid hf
    have HB := Lib.hid hb
    clear hok hown hx hf hb HX0 HF0 HB0
    by_cases hlt : k < l.length
    · obtain ⟨c, hc⟩ : ∃ c, l[k]? = some c := ⟨_, List.getElem?_eq_getElem hlt⟩
      have HC := Lib.hid hc
      have HH := Lib.hid (ok_here (ps := ps) hc)
      have HPC := Lib.hid (HPR.out c (List.mem_of_getElem? hc))
      obtain ⟨b, o, hal, -, -, hbl, hrg, hcok⟩ := HX.out.claim hc
      subst hal
      have HTK := Lib.hid (take_row hc)
      have c0 : wr.cell? ⟨b, o + k * 8, none⟩ = some (.int .i64 c.office) := hrg 0 _ rfl
      have c1 : wr.cell? ⟨b, o + k * 8 + 1, none⟩ = some (.int .i64 c.hour) := hrg 1 _ rfl
      have c2 : wr.cell? ⟨b, o + k * 8 + 2, none⟩ = some (.int .i64 c.inn) := hrg 2 _ rfl
      have c3 : wr.cell? ⟨b, o + k * 8 + 3, none⟩ = some (.int .i64 c.out) := hrg 3 _ rfl
      have c4 : wr.cell? ⟨b, o + k * 8 + 4, none⟩ = some (.int .i64 c.store) := hrg 4 _ rfl
      have c5 : wr.cell? ⟨b, o + k * 8 + 5, none⟩ = some (.string c.prev) := hrg 5 _ rfl
      have c6 : wr.cell? ⟨b, o + k * 8 + 6, none⟩ = some (.int .i64 c.e) := hrg 6 _ rfl
      have c7 : wr.cell? ⟨b, o + k * 8 + 7, none⟩ = some (.int .i64 c.s) := hrg 7 _ rfl
      have hlc1 : Below wr.heap.size wr (wr.alloc (.cells #[.int .i64 c.office, .int .i64 c.hour, .int .i64 c.inn, .int .i64 c.out, .int .i64 c.store, .string c.prev, .int .i64 c.e, .int .i64 c.s] 43)) := (Below.refl _ _).alloc (Nat.le_refl _) _
      have HO1 := Lib.hid (owns_under HO.out hlc1)
      have HX1 := Lib.hid (HX.out.below hlc1)
      have HF1 := Lib.hid (blk_below HF.out hlc1 (blk_lt HF.out))
      have HB1 := Lib.hid (HB.out.trans (hlc1.mono HB.out.size))
      have HQ1 := Lib.hid (heap_alloc_new wr (.cells #[.int .i64 c.office, .int .i64 c.hour, .int .i64 c.inn, .int .i64 c.out, .int .i64 c.store, .string c.prev, .int .i64 c.e, .int .i64 c.s] 43))
      clear hrg hbl hcok hlc1 hc HO HX HF HB
      go_wp2_with fail
      clear c0 c1 c2 c3 c4 c5 c6 c7
      generalize wr.heap.size = bc at *
      generalize wr.alloc (.cells #[.int .i64 c.office, .int .i64 c.hour, .int .i64 c.inn, .int .i64 c.out, .int .i64 c.store, .string c.prev, .int .i64 c.e, .int .i64 c.s] 43) = w4 at *
      refine wp_loop_rounds 6 ?_
      rw [rounds_succ]
      have cf : w4.cell? ⟨w.heap.size + 1 + 1, 0, none⟩ = some (.func (.func 49) #[] #[.pointer (some ⟨(w.heap.size + 1), 0, none⟩), .pointer (some ⟨w.heap.size, 0, none⟩)]) := (cell_of_row _ _ _ _ _ _ HF1.out).trans rfl
      go_wp2_with fail
      refine (clos1_any ps l w.heap.size (w.heap.size + 1) _ _ _ lc k c _ HX1.out HC.out hl hps).mono ?_
      rintro e w5 ⟨rfl, hb⟩
      have HO2 := Lib.hid (owns_under HO1.out hb)
      have HX2 := Lib.hid (HX1.out.below hb)
      have HF2 := Lib.hid (blk_below HF1.out hb (blk_lt HF1.out))
      have HQ2 := Lib.hid (blk_below HQ1.out hb (blk_lt HQ1.out))
      have HB2 := Lib.hid (HB1.out.trans (hb.mono HB1.out.size))
      clear hb cf HO1 HX1 HF1 HQ1 HB1
      rw [show decide _ = q1 ps c from rfl]
      cases hq1 : q1 ps c with
      | false =>
        have hno : okCh ps l k = false := by rw [HH.out, hq1]; rfl
        have hdn : decide (k = l.length) = false := decide_eq_false (by omega)
        go_wp2_with fail
        go_ret2
        exact ⟨k, _, ⟨hk, HOK.out, Or.inr hno⟩, by rw [hdn]; rfl, HO2.out, HB2.out⟩
      | true =>
        go_wp2_with fail
        rw [rounds_succ]
        have cf : w5.cell? ⟨w.heap.size + 1 + 1, 1, none⟩ = some (.func (.func 50) #[] #[.pointer (some ⟨w.heap.size, 0, none⟩), .pointer (some ⟨(w.heap.size + 1), 0, none⟩)]) := (cell_of_row _ _ _ _ _ _ HF2.out).trans rfl
        go_wp2_with fail
        refine (clos2_all ps l w.heap.size (w.heap.size + 1) _ _ _ lc k c _ HX2.out HC.out hq1 HPC.out hl hps (HG.out.below HB2.out HG.out.size) (HM.out.up HB2.out)).mono ?_
        rintro e w6 ⟨rfl, hb⟩
        have HO3 := Lib.hid (owns_under HO2.out hb)
        have HX3 := Lib.hid (HX2.out.below hb)
        have HF3 := Lib.hid (blk_below HF2.out hb (blk_lt HF2.out))
        have HQ3 := Lib.hid (blk_below HQ2.out hb (blk_lt HQ2.out))
        have HB3 := Lib.hid (HB2.out.trans (hb.mono HB2.out.size))
        clear hb cf HO2 HX2 HF2 HQ2 HB2
        cases hq2 : q2 ps c with
        | false =>
          have hno : okCh ps l k = false := by rw [HH.out, hq1, hq2]; rfl
          have hdn : decide (k = l.length) = false := decide_eq_false (by omega)
          go_wp2_with fail
          go_ret2
          exact ⟨k, _, ⟨hk, HOK.out, Or.inr hno⟩, by rw [hdn]; rfl, HO3.out, HB3.out⟩
        | true =>
          go_wp2_with fail
          rw [rounds_succ]
          have cf : w6.cell? ⟨w.heap.size + 1 + 1, 2, none⟩ = some (.func (.func 51) #[] #[.pointer (some ⟨(w.heap.size + 1), 0, none⟩)]) := (cell_of_row _ _ _ _ _ _ HF3.out).trans rfl
          go_wp2_with fail
          refine (clos3_any ps l w.heap.size (w.heap.size + 1) _ _ _ lc k c _ HX3.out HC.out hl).mono ?_
          rintro e w7 ⟨rfl, hb⟩
          have HO4 := Lib.hid (owns_under HO3.out hb)
          have HX4 := Lib.hid (HX3.out.below hb)
          have HF4 := Lib.hid (blk_below HF3.out hb (blk_lt HF3.out))
          have HQ4 := Lib.hid (blk_below HQ3.out hb (blk_lt HQ3.out))
          have HB4 := Lib.hid (HB3.out.trans (hb.mono HB3.out.size))
          clear hb cf HO3 HX3 HF3 HQ3 HB3
          rw [show decide _ = q3 k c from rfl]
          cases hq3 : q3 k c with
          | false =>
            have hno : okCh ps l k = false := by rw [HH.out, hq1, hq2, hq3]; rfl
            have hdn : decide (k = l.length) = false := decide_eq_false (by omega)
            go_wp2_with fail
            go_ret2
            exact ⟨k, _, ⟨hk, HOK.out, Or.inr hno⟩, by rw [hdn]; rfl, HO4.out, HB4.out⟩
          | true =>
            go_wp2_with fail
            rw [rounds_succ]
            have cf : w7.cell? ⟨w.heap.size + 1 + 1, 3, none⟩ = some (.func (.func 52) #[] #[.pointer (some ⟨(w.heap.size + 1), 0, none⟩)]) := (cell_of_row _ _ _ _ _ _ HF4.out).trans rfl
            go_wp2_with fail
            refine (clos4_all ps l w.heap.size (w.heap.size + 1) _ _ _ lc k c _ HX4.out HC.out hl).mono ?_
            rintro e w8 ⟨rfl, hb⟩
            have HO5 := Lib.hid (owns_under HO4.out hb)
            have HX5 := Lib.hid (HX4.out.below hb)
            have HF5 := Lib.hid (blk_below HF4.out hb (blk_lt HF4.out))
            have HQ5 := Lib.hid (blk_below HQ4.out hb (blk_lt HQ4.out))
            have HB5 := Lib.hid (HB4.out.trans (hb.mono HB4.out.size))
            clear hb cf HO4 HX4 HF4 HQ4 HB4
            cases hq4 : q4 l k c with
            | false =>
              have hno : okCh ps l k = false := by rw [HH.out, hq1, hq2, hq3, hq4]; rfl
              have hdn : decide (k = l.length) = false := decide_eq_false (by omega)
              go_wp2_with fail
              go_ret2
              exact ⟨k, _, ⟨hk, HOK.out, Or.inr hno⟩, by rw [hdn]; rfl, HO5.out, HB5.out⟩
            | true =>
              go_wp2_with fail
              rw [rounds_succ]
              have cf : w8.cell? ⟨w.heap.size + 1 + 1, 4, none⟩ = some (.func (.func 53) #[] #[.pointer (some ⟨(w.heap.size + 1), 0, none⟩)]) := (cell_of_row _ _ _ _ _ _ HF5.out).trans rfl
              go_wp2_with fail
              refine (clos5_all ps l w.heap.size (w.heap.size + 1) _ _ _ lc k c _ HX5.out HC.out HPR.out hl (HG.out.below HB5.out HG.out.size) (HM.out.up HB5.out)).mono ?_
              rintro e w9 ⟨rfl, hb⟩
              have HO6 := Lib.hid (owns_under HO5.out hb)
              have HX6 := Lib.hid (HX5.out.below hb)
              have HF6 := Lib.hid (blk_below HF5.out hb (blk_lt HF5.out))
              have HQ6 := Lib.hid (blk_below HQ5.out hb (blk_lt HQ5.out))
              have HB6 := Lib.hid (HB5.out.trans (hb.mono HB5.out.size))
              clear hb cf HO5 HX5 HF5 HQ5 HB5
              cases hq5 : q5 l k c with
              | false =>
                have hno : okCh ps l k = false := by rw [HH.out, hq1, hq2, hq3, hq4, hq5]; rfl
                have hdn : decide (k = l.length) = false := decide_eq_false (by omega)
                go_wp2_with fail
                go_ret2
                exact ⟨k, _, ⟨hk, HOK.out, Or.inr hno⟩, by rw [hdn]; rfl, HO6.out, HB6.out⟩
              | true =>
                go_wp2_with fail
                rw [rounds_succ]
                have hyes : okCh ps l k = true := by rw [HH.out, hq1, hq2, hq3, hq4, hq5]; rfl
                have c0 : w9.cell? ⟨bc, 0, none⟩ = some (.int .i64 c.office) := (cell_of_row _ _ _ _ _ _ HQ6.out).trans rfl
                have c1 : w9.cell? ⟨bc, 1, none⟩ = some (.int .i64 c.hour) := (cell_of_row _ _ _ _ _ _ HQ6.out).trans rfl
                have c2 : w9.cell? ⟨bc, 2, none⟩ = some (.int .i64 c.inn) := (cell_of_row _ _ _ _ _ _ HQ6.out).trans rfl
                have c3 : w9.cell? ⟨bc, 3, none⟩ = some (.int .i64 c.out) := (cell_of_row _ _ _ _ _ _ HQ6.out).trans rfl
                have c4 : w9.cell? ⟨bc, 4, none⟩ = some (.int .i64 c.store) := (cell_of_row _ _ _ _ _ _ HQ6.out).trans rfl
                have c5 : w9.cell? ⟨bc, 5, none⟩ = some (.string c.prev) := (cell_of_row _ _ _ _ _ _ HQ6.out).trans rfl
                have c6 : w9.cell? ⟨bc, 6, none⟩ = some (.int .i64 c.e) := (cell_of_row _ _ _ _ _ _ HQ6.out).trans rfl
                have c7 : w9.cell? ⟨bc, 7, none⟩ = some (.int .i64 c.s) := (cell_of_row _ _ _ _ _ _ HQ6.out).trans rfl
                have hnew : ∀ i u, (cellsC c)[i]? = some u → (w9.alloc (.cells #[.int .i64 c.office, .int .i64 c.hour, .int .i64 c.inn, .int .i64 c.out, .int .i64 c.store, .string c.prev, .int .i64 c.e, .int .i64 c.s] 43)).cell? ((⟨w9.heap.size, 0, none⟩ : Addr).add i) = some u := fun i u hi => by
                  rw [Addr.add_mid, Nat.zero_add, cell_of_row _ _ _ _ _ _ (heap_alloc_new w9 (.cells #[.int .i64 c.office, .int .i64 c.hour, .int .i64 c.inn, .int .i64 c.out, .int .i64 c.store, .string c.prev, .int .i64 c.e, .int .i64 c.s] 43)), ← Array.getElem?_toList]
                  exact hi
                have hbn : Below w9.heap.size w9 (w9.alloc (.cells #[.int .i64 c.office, .int .i64 c.hour, .int .i64 c.inn, .int .i64 c.out, .int .i64 c.store, .string c.prev, .int .i64 c.e, .int .i64 c.s] 43)) := (Below.refl _ _).alloc (Nat.le_refl _) _
                have HO7 := Lib.hid (owns_under HO6.out hbn)
                have HX7 := Lib.hid (HX6.out.below hbn)
                have HF7 := Lib.hid (blk_below HF6.out hbn (blk_lt HF6.out))
                have HB7 := Lib.hid (HB6.out.trans (hbn.mono HB6.out.size))
                have hsz7 : w.heap.size ≤ (w9.alloc (.cells #[.int .i64 c.office, .int .i64 c.hour, .int .i64 c.inn, .int .i64 c.out, .int .i64 c.store, .string c.prev, .int .i64 c.e, .int .i64 c.s] 43)).heap.size := HB7.out.size
                have hneP := own_ne HO7.out HX7.out.hP (by decide)
                have hneL := own_ne HO7.out HX7.out.hL (by decide)
                have hneF := own_ne HO7.out HF7.out (by decide)
                clear HO6 HX6 HF6 HB6 hbn
                go_wp2_with (at_builtin; refine Hid.out ?_)
                refine Lib.hid ?_
                refine wpList_append_own _ rfl _ _ 54 rfl w.heap.size 43 ic zc 8 ic.bytes undCl hic hzc hsz rfl hcz (by decide) _ k _ rfl HO7.out ⟨w9.heap.size, 0, none⟩ 1 1 (cellsC c) rfl rfl hnew (cellsC_one c) (by unfold maxLen; omega) (Nat.le_trans (Nat.mul_le_mul_right _ (show k + 1 ≤ 1024 by omega)) (by rw [Nat.mul_comm]; exact hbc)) hsz7 ?_
                intro v' w10 hown hgr _
                have HO8 : Hid (w10.ownsRow w.heap.size 43 8 v' (k + 1) ((l.take (k + 1)).flatMap cellsC)) := Lib.hid (by rw [HTK.out]; exact hown)
                have HB8 := Lib.hid (HB7.out.grown hgr HB7.out.size (fun q e => (HO7.out.lt q e).1))
                have HX8 : Hid (ChCtx ps l w.heap.size (w.heap.size + 1) (.slice ap ps.length pc) (.slice (some ⟨b, o, none⟩) l.length lc) w10) := Lib.hid ⟨(hgr.block _ (blk_lt HX7.out.hP) (fun e => hneP e.symm)).trans HX7.out.hP, (hgr.block _ (blk_lt HX7.out.hL) (fun e => hneL e.symm)).trans HX7.out.hL, HLP.out.below stays_int HB8.out, HLL.out.below stays_RC HB8.out⟩
                have HF8 := Lib.hid ((hgr.block _ (blk_lt HF7.out) (fun e => hneF e.symm)).trans HF7.out)
                have HOK8 : Hid (∀ j, j < k + 1 → okCh ps l j = true) := Lib.hid (fun j hj => by
                  by_cases h : j < k
                  · exact HOK.out j h
                  · obtain rfl : j = k := by omega
                    exact hyes)
                clear hown hgr hnew HO7 HX7 HF7 HB7 hneP hneL hneF hsz7 c0 c1 c2 c3 c4 c5 c6 c7
                go_wp2_with fail
                go_roundw
                case rel => exact ⟨k + 1, by omega, by go_num, HOK8.out, HO8.out, HX8.out, HF8.out, HB8.out⟩
                case measure => simp [Go.RowKit.intOf]; omega
    · obtain rfl : k = l.length := by omega
      clear hlt hk
      go_wp2_with fail
      go_ret2
      exact ⟨l.length, _, ⟨Nat.le_refl _, HOK.out, Or.inl rfl⟩, by rw [decide_eq_true rfl]; rfl, HO.out, HB.out⟩
end Go.Proofs.YtepidpegoihllaaGreatDoor
/- Equality of claims and of promises. -/
namespace Go.Proofs.YtepidpegoihllaaGreatDoor
open Go.RowKit
theorem str_eqC {s t : ByteArray} (h : s.toList = t.toList) : s = t := by
  rw [ByteArray.toList_eq, ByteArray.toList_eq] at h
  cases s; cases t; simp at h; rw [h]
theorem ite_ok (p : Prop) [Decidable p] (X : Result Bool) (q : Bool) (w : World) (h : X = .ok q w) : (if p then X else .ok false w) = .ok (decide p && q) w := by
  by_cases hp : p
  · rw [if_pos hp, h, decide_eq_true hp]; rfl
  · rw [if_neg hp, decide_eq_false hp]; rfl
theorem ite_last (p : Prop) [Decidable p] (w : World) : (if p then (.ok true w : Result Bool) else .ok false w) = .ok (decide p) w := by
  by_cases hp : p
  · rw [if_pos hp, decide_eq_true hp]
  · rw [if_neg hp, decide_eq_false hp]
set_option maxHeartbeats 4000000 in
theorem eqC (a0 : Int) (a1 : Int) (a2 : Int) (a3 : Int) (a4 : Int) (a5 : ByteArray) (a6 : Int) (a7 : Int) (b0 : Int) (b1 : Int) (b2 : Int) (b3 : Int) (b4 : Int) (b5 : ByteArray) (b6 : Int) (b7 : Int) (w : World) : (Op.equalIn 10000 43 (.agg #[.int .i64 a0, .int .i64 a1, .int .i64 a2, .int .i64 a3, .int .i64 a4, .string a5, .int .i64 a6, .int .i64 a7]) (.agg #[.int .i64 b0, .int .i64 b1, .int .i64 b2, .int .i64 b3, .int .i64 b4, .string b5, .int .i64 b6, .int .i64 b7])).run Tryz.prog w = .ok (decide (a0 = b0 ∧ a1 = b1 ∧ a2 = b2 ∧ a3 = b3 ∧ a4 = b4 ∧ a5 = b5 ∧ a6 = b6 ∧ a7 = b7)) w := by
  have u3 := Tryz.underlying3
  have ia3 := Tryz.isAgg3
  have z3 := Tryz.sizeOf3
  have u9 := Tryz.underlying9
  have ia9 := Tryz.isAgg9
  have z9 := Tryz.sizeOf9
  have uS := Tryz.underlying41
  have aS := Tryz.isAgg41
  have zS := Tryz.sizeOf41
  have hS : Tryz.prog.underlying 43 = some (.struct (Tryz.prog.fieldsOf 43)) := by kernel_rfl
  have hp : Tryz.prog.stoodInHeld 43 = false := by kernel_rfl
  rw [show (10000 : Nat) = 9999 + 1 from rfl, run_equalIn_agg w 9999 43 _ _ hS hp]
  simp only [Program.fieldsOf, Tryz.underlying43]
  go_simp
  have hs5 : (a5.toList = b5.toList) = (a5 = b5) := propext ⟨str_eqC, fun e => by rw [e]⟩
  simp only [hs5]
  exact ite_ok _ _ _ _ (ite_ok _ _ _ _ (ite_ok _ _ _ _ (ite_ok _ _ _ _ (ite_ok _ _ _ _ (ite_ok _ _ _ _ (ite_ok _ _ _ _ (ite_last _ _)))))))
set_option maxHeartbeats 4000000 in
theorem eqP (a0 : Int) (a1 : Int) (a2 : Int) (a3 : Int) (a4 : Int) (a5 : Int) (b0 : Int) (b1 : Int) (b2 : Int) (b3 : Int) (b4 : Int) (b5 : Int) (w : World) : (Op.equalIn 10000 58 (.agg #[.int .i64 a0, .int .i64 a1, .int .i64 a2, .int .i64 a3, .int .i64 a4, .int .i64 a5]) (.agg #[.int .i64 b0, .int .i64 b1, .int .i64 b2, .int .i64 b3, .int .i64 b4, .int .i64 b5])).run Tryz.prog w = .ok (decide (a0 = b0 ∧ a1 = b1 ∧ a2 = b2 ∧ a3 = b3 ∧ a4 = b4 ∧ a5 = b5)) w := by
  have u3 := Tryz.underlying3
  have ia3 := Tryz.isAgg3
  have z3 := Tryz.sizeOf3
  have u9 := Tryz.underlying9
  have ia9 := Tryz.isAgg9
  have z9 := Tryz.sizeOf9
  have uS := Tryz.underlying41
  have aS := Tryz.isAgg41
  have zS := Tryz.sizeOf41
  have hS : Tryz.prog.underlying 58 = some (.struct (Tryz.prog.fieldsOf 58)) := by kernel_rfl
  have hp : Tryz.prog.stoodInHeld 58 = false := by kernel_rfl
  rw [show (10000 : Nat) = 9999 + 1 from rfl, run_equalIn_agg w 9999 58 _ _ hS hp]
  simp only [Program.fieldsOf, Tryz.underlying58]
  go_simp
  exact ite_ok _ _ _ _ (ite_ok _ _ _ _ (ite_ok _ _ _ _ (ite_ok _ _ _ _ (ite_ok _ _ _ _ (ite_last _ _)))))
end Go.Proofs.YtepidpegoihllaaGreatDoor
