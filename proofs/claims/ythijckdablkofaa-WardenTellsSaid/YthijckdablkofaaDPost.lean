/- Wardens: New, Raise, Awaits, Ack. -/
import Derived.Test.YthijckdablkofaaDMap
import Derived.WalkSpells
import Derived.Carry
import Derived.Deep.DeepCutAuto
import Derived.Deep.CutRange
import Derived.BigQuiet
import Derived.Deep.QuietTactic
namespace Go.Proofs.Ythijckdablkofaa
open Go.RowKit Go.Maps
theorem row3 {w : World} {p : Nat} {fr : Nat × Nat} {ty : TypeId} {a b c : Value} (h : w.heap[p]? = some (.cells #[a, b, c] ty fr)) : w.cell? ⟨p, 0, none⟩ = some a ∧ w.cell? ⟨p, 1, none⟩ = some b ∧ w.cell? ⟨p, 2, none⟩ = some c :=
  ⟨(cell_of_row _ _ _ _ _ _ h).trans rfl, (cell_of_row _ _ _ _ _ _ h).trans rfl, (cell_of_row _ _ _ _ _ _ h).trans rfl⟩
theorem row4 {w : World} {p : Nat} {fr : Nat × Nat} {ty : TypeId} {a b c d : Value} (h : w.heap[p]? = some (.cells #[a, b, c, d] ty fr)) : w.cell? ⟨p, 0, none⟩ = some a ∧ w.cell? ⟨p, 1, none⟩ = some b ∧ w.cell? ⟨p, 2, none⟩ = some c ∧ w.cell? ⟨p, 3, none⟩ = some d :=
  ⟨(cell_of_row _ _ _ _ _ _ h).trans rfl, (cell_of_row _ _ _ _ _ _ h).trans rfl, (cell_of_row _ _ _ _ _ _ h).trans rfl, (cell_of_row _ _ _ _ _ _ h).trans rfl⟩
theorem MapAt.set {w : World} {pb mb n j : Nat} {m : OM} {v : Value} (h : MapAt w mb n m) (hne : mb ≠ pb) : MapAt (w.setCell ⟨pb, j, none⟩ v) mb n m := by
  obtain ⟨es, clock, hm, h2⟩ := h
  exact ⟨es, clock, (heap_setCell_other _ _ _ _ hne).trans hm, h2⟩
theorem Mv.setCell {pb mb j : Nat} {w w' : World} {v : Value} (h : Mv pb mb w w') : Mv pb mb w (w'.setCell ⟨pb, j, none⟩ v) :=
  h.trans ⟨rfl, rfl, rfl, by simp, fun k _ h1 _ => heap_setCell_other _ _ _ _ h1⟩
theorem Mv.grown {pb mb : Nat} {w w' w'' : World} (h : Mv pb mb w w') (hg : w'.grownBy w'' (some mb)) : Mv pb mb w w'' :=
  h.trans ⟨hg.os, hg.tape, hg.output, hg.size, fun k hk _ h2 => hg.block k hk (fun e => h2 (Option.some.inj e))⟩
theorem Mv.drew {pb mb : Nat} {w w' : World} (h : Mv pb mb w w') : Mv pb mb w w'.drew := ⟨h.os, h.tape, h.output, h.size, h.block⟩
set_option maxRecDepth 100000 in
set_option maxHeartbeats 1000000 in
theorem new_none (n : Int) (hn : n < 1 ∨ 16 < n) (w : World) :
    Calls Try.prog 9 #[.int .i64 n] w fun e w' => e = .returned (.pointer none) ∧ w = w' := by
  by_cases h1 : n < 1
  · clear hn
    go_enter Try.func9, Try.ntmps9
    go_wp2_with fail
    go_ret
    exact ⟨rfl, rfl⟩
  · have h2 : 16 < n := by omega
    clear hn
    go_enter Try.func9, Try.ntmps9
    go_wp2_with fail
    go_ret
    exact ⟨rfl, rfl⟩
set_option maxRecDepth 100000 in
set_option maxHeartbeats 1000000 in
theorem new_any (n : Nat) (h1 : 1 ≤ n) (h2 : n ≤ 16) (w : World) :
    Calls Try.prog 9 #[.int .i64 n] w fun e w' => e = .returned (.pointer (some ⟨w.heap.size + 1, 0, none⟩)) ∧ PAt w' (w.heap.size + 1) w.heap.size (newS n) ∧ Below w.heap.size w w' := by
  have hmm := @run_makeMap Try.prog
  have k1 : ¬ ((n : Int) < 1) := by omega
  have k2 : ¬ (16 < (n : Int)) := by omega
  go_enter Try.func9, Try.ntmps9
  go_wp2_with fail
  go_ret
  have hs : (w.alloc (.map #[] 0)).heap.size = w.heap.size + 1 := by simp
  have hr := heap_alloc_new (w.alloc (.map #[] 0)) (.cells #[.int .i64 n, .int .i64 0, .map (some w.heap.size)] 55)
  rw [hs] at hr
  refine ⟨rfl, ⟨hr, ?_⟩, ((Below.refl _ _).alloc (Nat.le_refl _) _).alloc (by simp) _⟩
  exact ((World.ownsMap_made w Try.prog 3 ordR).alloc _)
set_option maxRecDepth 100000 in
set_option maxHeartbeats 2000000 in
theorem raise_any (pb mb : Nat) (s : WS) (t l h : Int) (w : World) (hP : PAt w pb mb s) (hr : s.r ≤ 1000000) (hlen : s.m.length ≤ 1000000000) :
    Calls Try.prog 11 #[.pointer (some ⟨pb, 0, none⟩), .int .i64 t, .int .i64 l, .int .i64 h] w fun e w' => e = .returned (.int .i64 (raiseS s t l h).1) ∧ PAt w' pb mb (raiseS s t l h).2 ∧ Mv pb mb w w' := by
  have HP := Lib.hid hP
  have hne := hP.ne
  obtain ⟨c0, c1, c2⟩ := row3 hP.row
  have f1 : w.frozen? ⟨pb, 1, none⟩ = false := frozen_of_row _ _ _ _ _ hP.row
  clear hP
  by_cases k0 : t < 0
  · have hbad : raiseS s t l h = (0, s) := if_neg (by unfold okRaise; omega)
    go_enter Try.func11, Try.ntmps11
    go_wp2_with fail
    go_ret
    first | exact ⟨rfl, HP.out, Mv.refl _ _ _⟩ | exact ⟨by rw [hbad]; rfl, by rw [hbad]; exact HP.out, Mv.refl _ _ _⟩
  by_cases k1 : 40 ≤ t
  · have hbad : raiseS s t l h = (0, s) := if_neg (by unfold okRaise; omega)
    go_enter Try.func11, Try.ntmps11
    go_wp2_with fail
    go_ret
    first | exact ⟨rfl, HP.out, Mv.refl _ _ _⟩ | exact ⟨by rw [hbad]; rfl, by rw [hbad]; exact HP.out, Mv.refl _ _ _⟩
  by_cases k2 : l < 0
  · have hbad : raiseS s t l h = (0, s) := if_neg (by unfold okRaise; omega)
    go_enter Try.func11, Try.ntmps11
    go_wp2_with fail
    go_ret
    first | exact ⟨rfl, HP.out, Mv.refl _ _ _⟩ | exact ⟨by rw [hbad]; rfl, by rw [hbad]; exact HP.out, Mv.refl _ _ _⟩
  by_cases k3 : 3 < l
  · have hbad : raiseS s t l h = (0, s) := if_neg (by unfold okRaise; omega)
    go_enter Try.func11, Try.ntmps11
    go_wp2_with fail
    go_ret
    first | exact ⟨rfl, HP.out, Mv.refl _ _ _⟩ | exact ⟨by rw [hbad]; rfl, by rw [hbad]; exact HP.out, Mv.refl _ _ _⟩
  by_cases k4 : h < 0
  · have hbad : raiseS s t l h = (0, s) := if_neg (by unfold okRaise; omega)
    go_enter Try.func11, Try.ntmps11
    go_wp2_with fail
    go_ret
    first | exact ⟨rfl, HP.out, Mv.refl _ _ _⟩ | exact ⟨by rw [hbad]; rfl, by rw [hbad]; exact HP.out, Mv.refl _ _ _⟩
  by_cases k5 : 16777216 < h
  · have hbad : raiseS s t l h = (0, s) := if_neg (by unfold okRaise; omega)
    go_enter Try.func11, Try.ntmps11
    go_wp2_with fail
    go_ret
    first | exact ⟨rfl, HP.out, Mv.refl _ _ _⟩ | exact ⟨by rw [hbad]; rfl, by rw [hbad]; exact HP.out, Mv.refl _ _ _⟩
  have hgood : raiseS s t l h = ((s.r : Int) + 1, ⟨s.n, s.r + 1, putM s.m t ⟨l, (s.r : Int) + 1, h, false⟩⟩) := if_pos (by unfold okRaise; omega)
  have HGd := Lib.hid hgood
  have hw := @run_eql_map_nil Try.prog w 53 3 60 (some mb) undMo
  have hwr : IntKind.i64.wrap ((s.r : Int) + 1) = (s.r : Int) + 1 := IntWalk.i64_in _ (by omega)
  have HM7 : Hid (MapAt (w.setCell ⟨pb, 1, none⟩ (.int .i64 ((s.r : Int) + 1))) mb s.m.length s.m) := Lib.hid (HP.out.map.set (fun e => hne e.symm))
  have HR7 : Hid ((w.setCell ⟨pb, 1, none⟩ (.int .i64 ((s.r : Int) + 1))).heap[pb]? = some (.cells #[.int .i64 s.n, .int .i64 ((s.r : Int) + 1), .map (some mb)] 55 (0, 0))) := Lib.hid ((heap_setCell_same _ _ _ _ _ _ HP.out.row).trans rfl)
  have HV7 : Hid (Mv pb mb w (w.setCell ⟨pb, 1, none⟩ (.int .i64 ((s.r : Int) + 1)))) := Lib.hid ((Mv.refl _ _ _).setCell)
  have HL : Hid (s.m.length ≤ 1000000000) := Lib.hid (hlen)
  clear hgood
  go_enter Try.func11, Try.ntmps11
  go_wp2_with fail
  clear c0 c1 c2 f1 hw hwr
  generalize w.setCell ⟨pb, 1, none⟩ (.int .i64 ((s.r : Int) + 1)) = w7 at *
  obtain ⟨w8, hrun, hown, hgr⟩ := World.ownsMap.update (w := w7.drew) (H := Unit) HM7.out.drew lawI undMo (by have := HL.out; unfold maxLen; omega) (keyOf_int_mk Try.underlying3 (i64_mk (show I64 t by unfold I64; omega))) (ordR_mk ⟨l, (s.r : Int) + 1, h, false⟩)
  change (Instr.mapUpdate 53 (.map (some mb)) (.int .i64 t) (.agg #[.int .i64 l, .int .i64 ((s.r : Int) + 1), .int .i64 h, .bool false])).run Try.prog w7.drew = .ok () w8 at hrun
  have hr8 : w8.heap[pb]? = some (.cells #[.int .i64 s.n, .int .i64 ((s.r : Int) + 1), .map (some mb)] 55 (0, 0)) := (hgr.block pb (blk_lt HR7.out) (fun e => hne (Option.some.inj e))).trans HR7.out
  have hc8 := row3 hr8
  have HR8 := Lib.hid hr8
  have HO8 := Lib.hid hown
  have HV8 := Lib.hid (HV7.out.drew.grown hgr)
  have hc7 := row3 HR7.out
  clear hown hgr hr8
  refine wp_region_noPanic ?_
  refine wp_region_held_drew (S := fun w' => w'.cell? ⟨pb, 0, none⟩ = some (.int .i64 s.n) ∧ w'.cell? ⟨pb, 1, none⟩ = some (.int .i64 ((s.r : Int) + 1)) ∧ w'.cell? ⟨pb, 2, none⟩ = some (.map (some mb))) (by kernel_rfl) hc7 (fun hHeld => ?_)
  refine' wpAnyH_take (i := 0) (v := _) (by simp only [List.getElem?_toArray, List.getElem?_cons_zero]; exact rfl) (by kernel_rfl) (by kernel_rfl) (by kernel_rfl) (fun _ _ _ h => h) (Or.inl ⟨by rfl, ?y0x1⟩) hHeld ?r0x1
  case y0x1 => (intro w hSw; (try dsimp only at hSw); go_simp; try with_reducible rfl)
  try simp only [Act.put, List.setIfInBounds_toArray, List.set_cons_zero, List.set_cons_succ]
  refine' wpAnyH_take (i := 1) (v := _) (by simp only [List.getElem?_toArray, List.getElem?_cons_succ, List.getElem?_cons_zero]; exact rfl) (by kernel_rfl) (by kernel_rfl) (by kernel_rfl) (fun _ _ _ h => h) (Or.inl ⟨by rfl, ?y1x2⟩) hHeld ?r1x2
  case y1x2 => (intro w hSw; (try dsimp only at hSw); go_simp; try with_reducible rfl)
  try simp only [Act.put, List.setIfInBounds_toArray, List.set_cons_zero, List.set_cons_succ]
  refine' wpAnyH_take (i := 2) (v := _) (by simp only [List.getElem?_toArray, List.getElem?_cons_succ, List.getElem?_cons_zero]; exact rfl) (by kernel_rfl) (by kernel_rfl) (by kernel_rfl) (fun _ _ _ h => h) (Or.inl ⟨by rfl, ?y2x3⟩) hHeld ?r2x3
  case y2x3 => (intro w hSw; (try dsimp only at hSw); go_simp; try with_reducible rfl)
  try simp only [Act.put, List.setIfInBounds_toArray, List.set_cons_zero, List.set_cons_succ]
  refine' wpAnyH_take (i := 3) (v := _) (by simp only [List.getElem?_toArray, List.getElem?_cons_succ, List.getElem?_cons_zero]; exact rfl) (by kernel_rfl) (by kernel_rfl) (by kernel_rfl) (fun _ _ _ h => h) (Or.inl ⟨by rfl, ?y3x4⟩) hHeld ?r3x4
  case y3x4 => (intro w hSw; (try dsimp only at hSw); go_simp; try with_reducible rfl)
  try simp only [Act.put, List.setIfInBounds_toArray, List.set_cons_zero, List.set_cons_succ]
  refine' wpAnyH_take (i := 4) (v := _) (by simp only [List.getElem?_toArray, List.getElem?_cons_succ, List.getElem?_cons_zero]; exact rfl) (by kernel_rfl) (by kernel_rfl) (by kernel_rfl) (fun _ _ _ h => h) (Or.inl ⟨by rfl, ?y4x5⟩) hHeld ?r4x5
  case y4x5 => (intro w hSw; (try dsimp only at hSw); go_simp; try with_reducible rfl)
  try simp only [Act.put, List.setIfInBounds_toArray, List.set_cons_zero, List.set_cons_succ]
  refine' wpAnyH_take (i := 5) (v := _) (by simp only [List.getElem?_toArray, List.getElem?_cons_succ, List.getElem?_cons_zero]; exact rfl) (by kernel_rfl) (by kernel_rfl) (by kernel_rfl) (fun _ _ _ h => h) (Or.inl ⟨by rfl, ?y5x6⟩) hHeld ?r5x6
  case y5x6 => (intro w hSw; (try dsimp only at hSw); go_simp; try with_reducible rfl)
  try simp only [Act.put, List.setIfInBounds_toArray, List.set_cons_zero, List.set_cons_succ]
  refine' wpAnyH_take (i := 6) (v := _) (by simp only [List.getElem?_toArray, List.getElem?_cons_succ, List.getElem?_cons_zero]; exact rfl) (by kernel_rfl) (by kernel_rfl) (by kernel_rfl) (fun _ _ _ h => h) (Or.inl ⟨by rfl, ?y6x7⟩) hHeld ?r6x7
  case y6x7 => (intro w hSw; (try dsimp only at hSw); go_simp; try with_reducible rfl)
  try simp only [Act.put, List.setIfInBounds_toArray, List.set_cons_zero, List.set_cons_succ]
  refine' wpAnyH_take (i := 7) (v := _) (by simp only [List.getElem?_toArray, List.getElem?_cons_succ, List.getElem?_cons_zero]; exact rfl) (by kernel_rfl) (by kernel_rfl) (by kernel_rfl) (fun _ _ _ h => h) (Or.inl ⟨by rfl, ?y7x8⟩) hHeld ?r7x8
  case y7x8 => (intro w hSw; (try dsimp only at hSw); go_simp; try with_reducible rfl)
  try simp only [Act.put, List.setIfInBounds_toArray, List.set_cons_zero, List.set_cons_succ]
  refine' wpAnyH_take (i := 8) (v := _) (by simp only [List.getElem?_toArray, List.getElem?_cons_succ, List.getElem?_cons_zero]; exact rfl) (by kernel_rfl) (by kernel_rfl) (by kernel_rfl) (fun _ _ _ h => h) (Or.inl ⟨by rfl, ?y8x9⟩) hHeld ?r8x9
  case y8x9 => (intro w hSw; (try dsimp only at hSw); go_simp; try with_reducible rfl)
  try simp only [Act.put, List.setIfInBounds_toArray, List.set_cons_zero, List.set_cons_succ]
  refine' wpAnyH_take (i := 9) (v := _) (by simp only [List.getElem?_toArray, List.getElem?_cons_succ, List.getElem?_cons_zero]; exact rfl) (by kernel_rfl) (by kernel_rfl) (by kernel_rfl) (fun _ _ _ h => h) (Or.inl ⟨by rfl, ?y9x10⟩) hHeld ?r9x10
  case y9x10 => (intro w hSw; (try dsimp only at hSw); go_simp; try with_reducible rfl)
  try simp only [Act.put, List.setIfInBounds_toArray, List.set_cons_zero, List.set_cons_succ]
  refine' wpAnyH_take (i := 10) (v := _) (by simp only [List.getElem?_toArray, List.getElem?_cons_succ, List.getElem?_cons_zero]; exact rfl) (by kernel_rfl) (by kernel_rfl) (by kernel_rfl) (fun _ _ _ h => h) (Or.inl ⟨by rfl, ?y10x11⟩) hHeld ?r10x11
  case y10x11 => (intro w hSw; (try dsimp only at hSw); go_simp; try with_reducible rfl)
  try simp only [Act.put, List.setIfInBounds_toArray, List.set_cons_zero, List.set_cons_succ]
  refine' wpAnyH_take (i := 11) (v := _) (by simp only [List.getElem?_toArray, List.getElem?_cons_succ, List.getElem?_cons_zero]; exact rfl) (by kernel_rfl) (by kernel_rfl) (by kernel_rfl) (fun _ _ _ h => h) (Or.inl ⟨by rfl, ?y11x12⟩) hHeld ?r11x12
  case y11x12 => (intro w hSw; (try dsimp only at hSw); go_simp; try with_reducible rfl)
  try simp only [Act.put, List.setIfInBounds_toArray, List.set_cons_zero, List.set_cons_succ]
  refine wpAnyH_ready (rs := [12]) (by kernel_rfl) (by simp) ?_
  refine AllReadyH.cons (by simp only [List.getElem?_toArray, List.getElem?_cons_succ, List.getElem?_cons_zero]; exact rfl) (fun K hK => ?_) AllReadyH.nil
  go_simp
  refine hK.out _ _ (hc8) (fun hHeld => ?_)
  clear hK K
  try simp only [Act.put, List.setIfInBounds_toArray, List.set_cons_zero, List.set_cons_succ]
  refine wpAnyH_done (by kernel_rfl) ?_ _
  refine NoPanic.normal ?_
  obtain ⟨c0, c1, c2⟩ := hc8
  clear hc7 hrun hHeld
  go_wp2_with fail
  go_ret
  refine ⟨by rw [HGd.out]; rfl, ?_, HV8.out⟩
  rw [HGd.out]
  refine ⟨HR8.out.trans (by simp), ?_⟩
  have := HO8.out
  rw [omD_put] at this
  exact MapAt.tight this
def COk (c : CV) : Prop := I64 c.town ∧ I64 c.level ∧ I64 c.number ∧ I64 c.warden
theorem infoO : (Try.prog.info? 60).map (·.size) = some 4 := by kernel_rfl
theorem awaits_eq (s : WS) (c : CV) : awaitsS s c = ((getM s.m c.town).isSome && (!(ordAt s.m c.town).done && (decide ((ordAt s.m c.town).number = c.number) && (decide (0 ≤ c.warden) && decide (c.warden < s.n))))) := by
  unfold awaitsS ordAt
  cases getM s.m c.town with
  | none => rfl
  | some o => simp [awaitsO, Bool.and_assoc]
set_option maxRecDepth 100000 in
set_option maxHeartbeats 4000000 in
theorem awaits_any (pb mb : Nat) (s : WS) (c : CV) (w : World) (hP : PAt w pb mb s) (hc : COk c) :
    Calls Try.prog 15 #[.pointer (some ⟨pb, 0, none⟩), .agg #[.int .i64 c.town, .int .i64 c.level, .int .i64 c.number, .int .i64 c.warden]] w fun e w' => e = .returned (.bool (awaitsS s c)) ∧ Below w.heap.size w w' := by
  have HP := Lib.hid hP
  have hpl := hP.lt
  obtain ⟨W, hW⟩ : ∃ W, W = w.alloc (.cells #[.int .i64 c.town, .int .i64 c.level, .int .i64 c.number, .int .i64 c.warden] 29) := ⟨_, rfl⟩
  have hB0 : Below w.heap.size w W := by rw [hW]; exact (Below.refl _ _).alloc (Nat.le_refl _) _
  have hP0 := hP.below hB0
  have hr0 : W.heap[w.heap.size]? = some (.cells #[.int .i64 c.town, .int .i64 c.level, .int .i64 c.number, .int .i64 c.warden] 29 (0, 0)) := by rw [hW]; exact heap_alloc_new _ _
  obtain ⟨o, ho⟩ : ∃ o, o = (ordAt s.m c.town) := ⟨_, rfl⟩
  obtain ⟨ok, hok⟩ : ∃ ok, ok = (getM s.m c.town).isSome := ⟨_, rfl⟩
  have HSB : Hid (∀ V, Below W.heap.size W V → V.cell? ⟨pb, 0, none⟩ = some (.int .i64 s.n) ∧ V.cell? ⟨pb, 1, none⟩ = some (.int .i64 s.r) ∧ V.cell? ⟨pb, 2, none⟩ = some (.map (some mb)) ∧ V.cell? ⟨w.heap.size, 0, none⟩ = some (.int .i64 c.town) ∧ V.cell? ⟨w.heap.size, 1, none⟩ = some (.int .i64 c.level) ∧ V.cell? ⟨w.heap.size, 2, none⟩ = some (.int .i64 c.number) ∧ V.cell? ⟨w.heap.size, 3, none⟩ = some (.int .i64 c.warden) ∧ (Instr.lookup 53 (.map (some mb)) (.int .i64 c.town) true).run Try.prog V = .ok (.tuple #[.agg #[.int .i64 o.level, .int .i64 o.number, .int .i64 o.hour, .bool o.done], .bool ok]) V) := Lib.hid (fun V hV => by
    obtain ⟨q0, q1, q2⟩ := row3 (hP0.below hV).row
    obtain ⟨r0, r1, r2, r3⟩ := row4 (blk_below hr0 hV (blk_lt hr0))
    refine ⟨q0, q1, q2, r0, r1, r2, r3, ?_⟩
    rw [ho, hok]
    exact run_look_ok (hP0.below hV).map hc.1)
  have HA := Lib.hid (awaits_eq s c)
  rw [← ho, ← hok] at HA
  have hA1 : Below W.heap.size W (W.alloc (.cells #[.int .i64 o.level, .int .i64 o.number, .int .i64 o.hour, .bool o.done] 60)).drew := ((Below.refl _ _).alloc (Nat.le_refl _) _).drew
  have HP1 := Lib.hid (hP0.below hA1)
  have HR1 := Lib.hid (blk_below hr0 hA1 (blk_lt hr0))
  have HN1 : Hid ((W.alloc (.cells #[.int .i64 o.level, .int .i64 o.number, .int .i64 o.hour, .bool o.done] 60)).drew.heap[W.heap.size]? = some (.cells #[.int .i64 o.level, .int .i64 o.number, .int .i64 o.hour, .bool o.done] 60 (0, 0))) := Lib.hid (heap_alloc_new _ _)
  have HB1 := Lib.hid (hB0.trans (hA1.mono hB0.size))
  have hS0 := HSB.out _ ((Below.refl W.heap.size W).drew)
  clear hP hc ho hok hB0 hP0 hr0 hA1
  go_enter Try.func15, Try.ntmps15
  go_upto_region 1 with fail
  rw [← hW]
  clear hW
  refine wp_region_noPanic ?_
  refine wp_region_held_drew (S := fun w' => w'.cell? ⟨pb, 0, none⟩ = some (.int .i64 s.n) ∧ w'.cell? ⟨pb, 1, none⟩ = some (.int .i64 s.r) ∧ w'.cell? ⟨pb, 2, none⟩ = some (.map (some mb)) ∧ w'.cell? ⟨w.heap.size, 0, none⟩ = some (.int .i64 c.town) ∧ w'.cell? ⟨w.heap.size, 1, none⟩ = some (.int .i64 c.level) ∧ w'.cell? ⟨w.heap.size, 2, none⟩ = some (.int .i64 c.number) ∧ w'.cell? ⟨w.heap.size, 3, none⟩ = some (.int .i64 c.warden) ∧ (Instr.lookup 53 (.map (some mb)) (.int .i64 c.town) true).run Try.prog w' = .ok (.tuple #[.agg #[.int .i64 o.level, .int .i64 o.number, .int .i64 o.hour, .bool o.done], .bool ok]) w') (by kernel_rfl) hS0 (fun hHeld => ?_)
  refine' wpAnyH_take (i := 0) (v := _) (by simp only [List.getElem?_toArray, List.getElem?_cons_zero]; exact rfl) (by kernel_rfl) (by kernel_rfl) (by kernel_rfl) (fun _ _ _ h => h) (Or.inl ⟨by rfl, ?y0x13⟩) hHeld ?r0x13
  case y0x13 => (intro w hSw; (try dsimp only at hSw); go_simp; try with_reducible rfl)
  try simp only [Act.put, List.setIfInBounds_toArray, List.set_cons_zero, List.set_cons_succ]
  refine' wpAnyH_take (i := 1) (v := _) (by simp only [List.getElem?_toArray, List.getElem?_cons_succ, List.getElem?_cons_zero]; exact rfl) (by kernel_rfl) (by kernel_rfl) (by kernel_rfl) (fun _ _ _ h => h) (Or.inl ⟨by rfl, ?y1x14⟩) hHeld ?r1x14
  case y1x14 => (intro w hSw; (try dsimp only at hSw); go_simp; try with_reducible rfl)
  try simp only [Act.put, List.setIfInBounds_toArray, List.set_cons_zero, List.set_cons_succ]
  refine' wpAnyH_take (i := 2) (v := _) (by simp only [List.getElem?_toArray, List.getElem?_cons_succ, List.getElem?_cons_zero]; exact rfl) (by kernel_rfl) (by kernel_rfl) (by kernel_rfl) (fun _ _ _ h => h) (Or.inl ⟨by rfl, ?y2x15⟩) hHeld ?r2x15
  case y2x15 => (intro w hSw; (try dsimp only at hSw); go_simp; try with_reducible rfl)
  try simp only [Act.put, List.setIfInBounds_toArray, List.set_cons_zero, List.set_cons_succ]
  refine' wpAnyH_take (i := 3) (v := _) (by simp only [List.getElem?_toArray, List.getElem?_cons_succ, List.getElem?_cons_zero]; exact rfl) (by kernel_rfl) (by kernel_rfl) (by kernel_rfl) (fun _ _ _ h => h) (Or.inl ⟨by rfl, ?y3x16⟩) hHeld ?r3x16
  case y3x16 => (intro w hSw; (try dsimp only at hSw); go_simp; try with_reducible rfl)
  try simp only [Act.put, List.setIfInBounds_toArray, List.set_cons_zero, List.set_cons_succ]
  refine' wpAnyH_take (i := 4) (v := _) (by simp only [List.getElem?_toArray, List.getElem?_cons_succ, List.getElem?_cons_zero]; exact rfl) (by kernel_rfl) (by kernel_rfl) (by kernel_rfl) (fun _ _ _ h => h) (Or.inl ⟨by rfl, ?y4x17⟩) hHeld ?r4x17
  case y4x17 => (intro w hSw; (try dsimp only at hSw); go_simp; try with_reducible rfl)
  try simp only [Act.put, List.setIfInBounds_toArray, List.set_cons_zero, List.set_cons_succ]
  refine' wpAnyH_take (i := 5) (v := _) (by simp only [List.getElem?_toArray, List.getElem?_cons_succ, List.getElem?_cons_zero]; exact rfl) (by kernel_rfl) (by kernel_rfl) (by kernel_rfl) (fun _ _ _ h => h) (Or.inl ⟨by rfl, ?y5x18⟩) hHeld ?r5x18
  case y5x18 => (intro w hSw; (try dsimp only at hSw); go_simp; try with_reducible rfl)
  try simp only [Act.put, List.setIfInBounds_toArray, List.set_cons_zero, List.set_cons_succ]
  refine' wpAnyH_take (i := 6) (v := _) (by simp only [List.getElem?_toArray, List.getElem?_cons_succ, List.getElem?_cons_zero]; exact rfl) (by kernel_rfl) (by kernel_rfl) (by kernel_rfl) (fun _ _ _ h => h) (Or.inl ⟨by rfl, ?y6x19⟩) hHeld ?r6x19
  case y6x19 => (intro w hSw; (try dsimp only at hSw); go_simp; try with_reducible rfl)
  try simp only [Act.put, List.setIfInBounds_toArray, List.set_cons_zero, List.set_cons_succ]
  refine' wpAnyH_take (i := 7) (v := _) (by simp only [List.getElem?_toArray, List.getElem?_cons_succ, List.getElem?_cons_zero]; exact rfl) (by kernel_rfl) (by kernel_rfl) (by kernel_rfl) (fun _ _ _ h => h) (Or.inl ⟨by rfl, ?y7x20⟩) hHeld ?r7x20
  case y7x20 => (intro w hSw; (try dsimp only at hSw); go_simp; try with_reducible rfl)
  try simp only [Act.put, List.setIfInBounds_toArray, List.set_cons_zero, List.set_cons_succ]
  refine' wpAnyH_take (i := 8) (v := _) (by simp only [List.getElem?_toArray, List.getElem?_cons_succ, List.getElem?_cons_zero]; exact rfl) (by kernel_rfl) (by kernel_rfl) (by kernel_rfl) (fun _ _ _ h => h) (Or.inl ⟨by rfl, ?y8x21⟩) hHeld ?r8x21
  case y8x21 => (intro w hSw; (try dsimp only at hSw); go_simp; try with_reducible rfl)
  try simp only [Act.put, List.setIfInBounds_toArray, List.set_cons_zero, List.set_cons_succ]
  refine' wpAnyH_take (i := 9) (v := _) (by simp only [List.getElem?_toArray, List.getElem?_cons_succ, List.getElem?_cons_zero]; exact rfl) (by kernel_rfl) (by kernel_rfl) (by kernel_rfl) (fun _ _ _ h => h) (Or.inl ⟨by rfl, ?y9x22⟩) hHeld ?r9x22
  case y9x22 => (intro w hSw; (try dsimp only at hSw); go_simp; try with_reducible rfl)
  try simp only [Act.put, List.setIfInBounds_toArray, List.set_cons_zero, List.set_cons_succ]
  refine wpAnyH_ready (rs := [10]) (by kernel_rfl) (by simp) ?_
  refine AllReadyH.cons (by simp only [List.getElem?_toArray, List.getElem?_cons_succ, List.getElem?_cons_zero]; exact rfl) (fun K hK => ?_) AllReadyH.nil
  go_simp
  refine hK.out _ _ (HSB.out _ (((Below.refl _ _).alloc (Nat.le_refl _) _).drew)) (fun hHeld => ?_)
  clear hK K
  try simp only [Act.put, List.setIfInBounds_toArray, List.set_cons_zero, List.set_cons_succ]
  refine wpAnyH_ready (rs := [11]) (by kernel_rfl) (by simp) ?_
  refine AllReadyH.cons (by simp only [List.getElem?_toArray, List.getElem?_cons_succ, List.getElem?_cons_zero]; exact rfl) (fun K hK => ?_) AllReadyH.nil
  rw [if_pos (by rfl)]
  refine wp_store_row 60 _ _ rfl W.heap.size #[.int .i64 o.level, .int .i64 o.number, .int .i64 o.hour, .bool o.done] rfl rfl 60 #[.int .i64 0, .int .i64 0, .int .i64 0, .bool false] (heap_alloc_new W (.cells #[.int .i64 0, .int .i64 0, .int .i64 0, .bool false] 60)) infoO rfl (by simp [Value.oneCell']) ?_
  rw [show (W.alloc (.cells #[.int .i64 0, .int .i64 0, .int .i64 0, .bool false] 60)).drew.setRow W.heap.size #[.int .i64 o.level, .int .i64 o.number, .int .i64 o.hour, .bool o.done] = (W.alloc (.cells #[.int .i64 o.level, .int .i64 o.number, .int .i64 o.hour, .bool o.done] 60)).drew from congrArg World.drew (World.setRow_alloc_new W _ _ _)]
  refine hK.out _ _ (HSB.out _ (((Below.refl _ _).alloc (Nat.le_refl _) _).drew)) (fun hHeld => ?_)
  clear hK K
  try simp only [Act.put]
  refine' wpAnyH_take (i := 12) (v := _) (by simp only [List.getElem?_toArray, List.getElem?_cons_succ, List.getElem?_cons_zero]; exact rfl) (by kernel_rfl) (by kernel_rfl) (by kernel_rfl) (fun _ _ _ h => h) (Or.inl ⟨by rfl, ?y12x23⟩) hHeld ?r12x23
  case y12x23 => (intro w hSw; (try dsimp only at hSw); go_simp; try with_reducible rfl)
  try simp only [Act.put, List.setIfInBounds_toArray, List.set_cons_zero, List.set_cons_succ]
  refine wpAnyH_done (by kernel_rfl) ?_ _
  refine NoPanic.normal ?_
  clear hS0 hHeld HSB
  go_wp2_with fail
  generalize (W.alloc (.cells #[.int .i64 o.level, .int .i64 o.number, .int .i64 o.hour, .bool o.done] 60)).drew = V at *
  obtain ⟨q0, q1, q2⟩ := row3 HP1.out.row
  obtain ⟨r0, r1, r2, r3⟩ := row4 HR1.out
  obtain ⟨y0, y1, y2, y3⟩ := row4 HN1.out
  clear q1 q2 r0 r1 y0 y2
  generalize W.heap.size = pw at *
  obtain ⟨ol, on, oh, od⟩ := o
  simp only [] at *
  cases ok
  · (
    go_quiet (fail)
    go_wp2_with fail
    go_ret
    exact ⟨by rw [HA.out]; first | (simp_all; done) | (simp_all; omega), below_drewN HB1.out⟩)
  cases od
  case true => (
    go_quiet (fail)
    go_wp2_with fail
    go_ret
    exact ⟨by rw [HA.out]; first | (simp_all; done) | (simp_all; omega), below_drewN HB1.out⟩)
  by_cases k1 : on = c.number
  case neg =>
    have k1' : (on == c.number) = false := beq_eq_false_iff_ne.2 k1
    (
    go_quiet (fail)
    go_wp2_with fail
    go_ret
    exact ⟨by rw [HA.out]; first | (simp_all; done) | (simp_all; omega), below_drewN HB1.out⟩)
  have k1' : (on == c.number) = true := beq_iff_eq.2 k1
  by_cases k2 : 0 ≤ c.warden
  case neg => (
    go_quiet (fail)
    go_wp2_with fail
    go_ret
    exact ⟨by rw [HA.out]; first | (simp_all; done) | (simp_all; omega), below_drewN HB1.out⟩)
  by_cases k3 : c.warden < s.n
  case neg => (
    go_quiet (fail)
    go_wp2_with fail
    go_ret
    exact ⟨by rw [HA.out]; first | (simp_all; done) | (simp_all; omega), below_drewN HB1.out⟩)
  (
    go_quiet (fail)
    go_wp2_with fail
    go_ret
    exact ⟨by rw [HA.out]; first | (simp_all; done) | (simp_all; omega), below_drewN HB1.out⟩)
theorem ack_true {s : WS} {c : CV} (h : awaitsS s c = true) : ackS s c = (true, ⟨s.n, s.r, putM s.m c.town ⟨(ordAt s.m c.town).level, (ordAt s.m c.town).number, (ordAt s.m c.town).hour, true⟩⟩) := by
  unfold ackS
  rw [if_pos h]
  unfold awaitsS at h
  unfold ordAt
  cases hg : getM s.m c.town with
  | none => rw [hg] at h; cases h
  | some o => rfl
theorem ack_false {s : WS} {c : CV} (h : awaitsS s c = false) : ackS s c = (false, s) := by
  unfold ackS
  rw [h]
  rfl
set_option maxRecDepth 100000 in
set_option maxHeartbeats 4000000 in
theorem ack_any (pb mb : Nat) (s : WS) (c : CV) (w : World) (hP : PAt w pb mb s) (hc : COk c) (hlen : s.m.length ≤ 1000000000) :
    Calls Try.prog 13 #[.pointer (some ⟨pb, 0, none⟩), .agg #[.int .i64 c.town, .int .i64 c.level, .int .i64 c.number, .int .i64 c.warden]] w fun e w' => e = .returned (.bool (ackS s c).1) ∧ PAt w' pb mb (ackS s c).2 ∧ Mv pb mb w w' := by
  have HP := Lib.hid hP
  have hpl := hP.lt
  obtain ⟨W, hW⟩ : ∃ W, W = w.alloc (.cells #[.int .i64 c.town, .int .i64 c.level, .int .i64 c.number, .int .i64 c.warden] 29) := ⟨_, rfl⟩
  have hB0 : Below w.heap.size w W := by rw [hW]; exact (Below.refl _ _).alloc (Nat.le_refl _) _
  have hP0 := hP.below hB0
  have hr0 : W.heap[w.heap.size]? = some (.cells #[.int .i64 c.town, .int .i64 c.level, .int .i64 c.number, .int .i64 c.warden] 29 (0, 0)) := by rw [hW]; exact heap_alloc_new _ _
  obtain ⟨o, ho⟩ : ∃ o, o = (ordAt s.m c.town) := ⟨_, rfl⟩
  obtain ⟨ok, hok⟩ : ∃ ok, ok = (getM s.m c.town).isSome := ⟨_, rfl⟩
  have HSB : Hid (∀ V, Below W.heap.size W V → V.cell? ⟨pb, 0, none⟩ = some (.int .i64 s.n) ∧ V.cell? ⟨pb, 1, none⟩ = some (.int .i64 s.r) ∧ V.cell? ⟨pb, 2, none⟩ = some (.map (some mb)) ∧ V.cell? ⟨w.heap.size, 0, none⟩ = some (.int .i64 c.town) ∧ V.cell? ⟨w.heap.size, 1, none⟩ = some (.int .i64 c.level) ∧ V.cell? ⟨w.heap.size, 2, none⟩ = some (.int .i64 c.number) ∧ V.cell? ⟨w.heap.size, 3, none⟩ = some (.int .i64 c.warden) ∧ (Instr.lookup 53 (.map (some mb)) (.int .i64 c.town) false).run Try.prog V = .ok (.agg #[.int .i64 o.level, .int .i64 o.number, .int .i64 o.hour, .bool o.done]) V) := Lib.hid (fun V hV => by
    obtain ⟨q0, q1, q2⟩ := row3 (hP0.below hV).row
    obtain ⟨r0, r1, r2, r3⟩ := row4 (blk_below hr0 hV (blk_lt hr0))
    refine ⟨q0, q1, q2, r0, r1, r2, r3, ?_⟩
    rw [ho]
    exact run_look (hP0.below hV).map hc.1)
  have hne := hP.ne
  have HC := Lib.hid hc
  have HP0 := Lib.hid hP0
  have HR0 := Lib.hid hr0
  have HB0 := Lib.hid hB0
  have HO := Lib.hid ho
  clear hP hc ho hok hB0 hP0 hr0
  go_enter Try.func13, Try.ntmps13
  go_wp2_with fail
  rw [← hW]
  clear hW
  refine (awaits_any pb mb s c W HP0.out HC.out).mono ?_
  rintro e w2 ⟨rfl, hb⟩
  by_cases ha : awaitsS s c = true
  case neg =>
    have ha' : awaitsS s c = false := by simpa using ha
    have HE := Lib.hid (ack_false ha')
    rw [ha']
    clear ha ha'
    go_wp2_with fail
    go_ret
    exact ⟨by rw [HE.out]; rfl, by rw [HE.out]; exact HP0.out.below hb, (Mv.of_below HB0.out).trans (Mv.of_below hb)⟩
  have HE := Lib.hid (ack_true ha)
  rw [← HO.out] at HE
  rw [ha]
  clear ha
  have HSB2 : Hid (∀ V, Below w2.heap.size w2 V → V.cell? ⟨pb, 0, none⟩ = some (.int .i64 s.n) ∧ V.cell? ⟨pb, 1, none⟩ = some (.int .i64 s.r) ∧ V.cell? ⟨pb, 2, none⟩ = some (.map (some mb)) ∧ V.cell? ⟨w.heap.size, 0, none⟩ = some (.int .i64 c.town) ∧ V.cell? ⟨w.heap.size, 1, none⟩ = some (.int .i64 c.level) ∧ V.cell? ⟨w.heap.size, 2, none⟩ = some (.int .i64 c.number) ∧ V.cell? ⟨w.heap.size, 3, none⟩ = some (.int .i64 c.warden) ∧ (Instr.lookup 53 (.map (some mb)) (.int .i64 c.town) false).run Try.prog V = .ok (.agg #[.int .i64 o.level, .int .i64 o.number, .int .i64 o.hour, .bool o.done]) V) := Lib.hid (fun V hV => HSB.out V (hb.trans (hV.mono hb.size)))
  have HP2 := Lib.hid (HP0.out.below hb)
  have HR2 := Lib.hid (blk_below HR0.out hb (blk_lt HR0.out))
  have HV2 := Lib.hid ((Mv.of_below (pb := pb) (mb := mb) HB0.out).trans (Mv.of_below hb))
  have hS3 := HSB2.out _ ((Below.refl w2.heap.size w2).drew)
  have hpl2 := HP2.out.lt
  have hwl := blk_lt HR2.out
  clear hb HSB HP0 HR0 HB0
  go_wp2_with fail
  refine wp_region_noPanic ?_
  refine wp_region_held_drew (S := fun w' => w'.cell? ⟨pb, 0, none⟩ = some (.int .i64 s.n) ∧ w'.cell? ⟨pb, 1, none⟩ = some (.int .i64 s.r) ∧ w'.cell? ⟨pb, 2, none⟩ = some (.map (some mb)) ∧ w'.cell? ⟨w.heap.size, 0, none⟩ = some (.int .i64 c.town) ∧ w'.cell? ⟨w.heap.size, 1, none⟩ = some (.int .i64 c.level) ∧ w'.cell? ⟨w.heap.size, 2, none⟩ = some (.int .i64 c.number) ∧ w'.cell? ⟨w.heap.size, 3, none⟩ = some (.int .i64 c.warden) ∧ (Instr.lookup 53 (.map (some mb)) (.int .i64 c.town) false).run Try.prog w' = .ok (.agg #[.int .i64 o.level, .int .i64 o.number, .int .i64 o.hour, .bool o.done]) w') (by kernel_rfl) hS3 (fun hHeld => ?_)
  refine' wpAnyH_take (i := 0) (v := _) (by simp only [List.getElem?_toArray, List.getElem?_cons_zero]; exact rfl) (by kernel_rfl) (by kernel_rfl) (by kernel_rfl) (fun _ _ _ h => h) (Or.inl ⟨by rfl, ?y0x24⟩) hHeld ?r0x24
  case y0x24 => (intro w hSw; (try dsimp only at hSw); go_simp; try with_reducible rfl)
  try simp only [Act.put, List.setIfInBounds_toArray, List.set_cons_zero, List.set_cons_succ]
  refine' wpAnyH_take (i := 1) (v := _) (by simp only [List.getElem?_toArray, List.getElem?_cons_succ, List.getElem?_cons_zero]; exact rfl) (by kernel_rfl) (by kernel_rfl) (by kernel_rfl) (fun _ _ _ h => h) (Or.inl ⟨by rfl, ?y1x25⟩) hHeld ?r1x25
  case y1x25 => (intro w hSw; (try dsimp only at hSw); go_simp; try with_reducible rfl)
  try simp only [Act.put, List.setIfInBounds_toArray, List.set_cons_zero, List.set_cons_succ]
  refine' wpAnyH_take (i := 2) (v := _) (by simp only [List.getElem?_toArray, List.getElem?_cons_succ, List.getElem?_cons_zero]; exact rfl) (by kernel_rfl) (by kernel_rfl) (by kernel_rfl) (fun _ _ _ h => h) (Or.inl ⟨by rfl, ?y2x26⟩) hHeld ?r2x26
  case y2x26 => (intro w hSw; (try dsimp only at hSw); go_simp; try with_reducible rfl)
  try simp only [Act.put, List.setIfInBounds_toArray, List.set_cons_zero, List.set_cons_succ]
  refine' wpAnyH_take (i := 3) (v := _) (by simp only [List.getElem?_toArray, List.getElem?_cons_succ, List.getElem?_cons_zero]; exact rfl) (by kernel_rfl) (by kernel_rfl) (by kernel_rfl) (fun _ _ _ h => h) (Or.inl ⟨by rfl, ?y3x27⟩) hHeld ?r3x27
  case y3x27 => (intro w hSw; (try dsimp only at hSw); go_simp; try with_reducible rfl)
  try simp only [Act.put, List.setIfInBounds_toArray, List.set_cons_zero, List.set_cons_succ]
  refine' wpAnyH_take (i := 4) (v := _) (by simp only [List.getElem?_toArray, List.getElem?_cons_succ, List.getElem?_cons_zero]; exact rfl) (by kernel_rfl) (by kernel_rfl) (by kernel_rfl) (fun _ _ _ h => h) (Or.inl ⟨by rfl, ?y4x28⟩) hHeld ?r4x28
  case y4x28 => (intro w hSw; (try dsimp only at hSw); go_simp; try with_reducible rfl)
  try simp only [Act.put, List.setIfInBounds_toArray, List.set_cons_zero, List.set_cons_succ]
  refine' wpAnyH_take (i := 5) (v := _) (by simp only [List.getElem?_toArray, List.getElem?_cons_succ, List.getElem?_cons_zero]; exact rfl) (by kernel_rfl) (by kernel_rfl) (by kernel_rfl) (fun _ _ _ h => h) (Or.inl ⟨by rfl, ?y5x29⟩) hHeld ?r5x29
  case y5x29 => (intro w hSw; (try dsimp only at hSw); go_simp; try with_reducible rfl)
  try simp only [Act.put, List.setIfInBounds_toArray, List.set_cons_zero, List.set_cons_succ]
  refine' wpAnyH_take (i := 6) (v := _) (by simp only [List.getElem?_toArray, List.getElem?_cons_succ, List.getElem?_cons_zero]; exact rfl) (by kernel_rfl) (by kernel_rfl) (by kernel_rfl) (fun _ _ _ h => h) (Or.inl ⟨by rfl, ?y6x30⟩) hHeld ?r6x30
  case y6x30 => (intro w hSw; (try dsimp only at hSw); go_simp; try with_reducible rfl)
  try simp only [Act.put, List.setIfInBounds_toArray, List.set_cons_zero, List.set_cons_succ]
  refine wpAnyH_ready (rs := [7]) (by kernel_rfl) (by simp) ?_
  refine AllReadyH.cons (by simp only [List.getElem?_toArray, List.getElem?_cons_succ, List.getElem?_cons_zero]; exact rfl) (fun K hK => ?_) AllReadyH.nil
  go_simp
  refine hK.out _ _ (HSB2.out _ (((Below.refl _ _).alloc (Nat.le_refl _) _).drew)) (fun hHeld => ?_)
  clear hK K
  try simp only [Act.put, List.setIfInBounds_toArray, List.set_cons_zero, List.set_cons_succ]
  refine wpAnyH_ready (rs := [8]) (by kernel_rfl) (by simp) ?_
  refine AllReadyH.cons (by simp only [List.getElem?_toArray, List.getElem?_cons_succ, List.getElem?_cons_zero]; exact rfl) (fun K hK => ?_) AllReadyH.nil
  rw [if_pos (by rfl)]
  refine wp_store_row 60 _ _ rfl w2.heap.size #[.int .i64 o.level, .int .i64 o.number, .int .i64 o.hour, .bool o.done] rfl rfl 60 #[.int .i64 0, .int .i64 0, .int .i64 0, .bool false] (heap_alloc_new w2 (.cells #[.int .i64 0, .int .i64 0, .int .i64 0, .bool false] 60)) infoO rfl (by simp [Value.oneCell']) ?_
  rw [show (w2.alloc (.cells #[.int .i64 0, .int .i64 0, .int .i64 0, .bool false] 60)).drew.setRow w2.heap.size #[.int .i64 o.level, .int .i64 o.number, .int .i64 o.hour, .bool o.done] = (w2.alloc (.cells #[.int .i64 o.level, .int .i64 o.number, .int .i64 o.hour, .bool o.done] 60)).drew from congrArg World.drew (World.setRow_alloc_new w2 _ _ _)]
  refine hK.out _ _ (HSB2.out _ (((Below.refl _ _).alloc (Nat.le_refl _) _).drew)) (fun hHeld => ?_)
  clear hK K
  try simp only [Act.put]
  refine wpAnyH_done (by kernel_rfl) ?_ _
  refine NoPanic.normal ?_
  clear hS3 hHeld HSB2
  have hA1 : Below w2.heap.size w2 (w2.alloc (.cells #[.int .i64 o.level, .int .i64 o.number, .int .i64 o.hour, .bool o.done] 60)).drew := ((Below.refl _ _).alloc (Nat.le_refl _) _).drew
  have HP3 := Lib.hid (HP2.out.below hA1)
  have HR3 := Lib.hid (blk_below HR2.out hA1 hwl)
  have HV3 := Lib.hid (HV2.out.trans (Mv.of_below hA1))
  have hN3 : (w2.alloc (.cells #[.int .i64 o.level, .int .i64 o.number, .int .i64 o.hour, .bool o.done] 60)).drew.heap[w2.heap.size]? = some (.cells #[.int .i64 o.level, .int .i64 o.number, .int .i64 o.hour, .bool o.done] 60 (0, 0)) := heap_alloc_new _ _
  have HN3 := Lib.hid hN3
  generalize (w2.alloc (.cells #[.int .i64 o.level, .int .i64 o.number, .int .i64 o.hour, .bool o.done] 60)).drew = V at *
  generalize w2.heap.size = pn at *
  have y3 : V.cell? ⟨pn, 3, none⟩ = some (.bool o.done) := (cell_of_row _ _ _ _ _ _ hN3).trans rfl
  have f3 : V.frozen? ⟨pn, 3, none⟩ = false := frozen_of_row _ _ _ _ _ hN3
  clear hN3 hA1 HP2 HR2 HV2
  go_wp2_with fail
  clear y3 f3
  have n1 : pb ≠ pn := by omega
  have n2 : mb ≠ pn := by omega
  have n3 : w.heap.size ≠ pn := by omega
  have HN4 : Hid ((V.setCell ⟨pn, 3, none⟩ (.bool true)).heap[pn]? = some (.cells #[.int .i64 o.level, .int .i64 o.number, .int .i64 o.hour, .bool true] 60 (0, 0))) := Lib.hid ((heap_setCell_same _ _ _ _ _ _ HN3.out).trans rfl)
  have HR4 : Hid ((V.setCell ⟨pn, 3, none⟩ (.bool true)).heap[w.heap.size]? = some (.cells #[.int .i64 c.town, .int .i64 c.level, .int .i64 c.number, .int .i64 c.warden] 29 (0, 0))) := Lib.hid ((heap_setCell_other _ _ _ _ n3).trans HR3.out)
  have HM4 : Hid (MapAt (V.setCell ⟨pn, 3, none⟩ (.bool true)) mb s.m.length s.m) := Lib.hid (HP3.out.map.set n2)
  have HQ4 : Hid ((V.setCell ⟨pn, 3, none⟩ (.bool true)).heap[pb]? = some (.cells #[.int .i64 s.n, .int .i64 s.r, .map (some mb)] 55 (0, 0))) := Lib.hid ((heap_setCell_other _ _ _ _ n1).trans HP3.out.row)
  have HV4 : Hid (Mv pb mb w (V.setCell ⟨pn, 3, none⟩ (.bool true))) := Lib.hid ⟨HV3.out.os, HV3.out.tape, HV3.out.output, by have := HV3.out.size; simpa using this, fun k hk h1 h2 => (heap_setCell_other _ _ _ _ (show k ≠ pn from fun e => by rw [e] at hk; exact absurd (Nat.lt_trans hk hwl) (Nat.lt_irrefl _))).trans (HV3.out.block k hk h1 h2)⟩
  clear HN3 HR3 HP3 HV3
  generalize V.setCell ⟨pn, 3, none⟩ (.bool true) = V4 at *
  obtain ⟨w8, hrun, hown, hgr⟩ := World.ownsMap.update (w := V4.drew) (H := Unit) HM4.out.drew lawI undMo (by unfold maxLen; omega) (keyOf_int_mk Try.underlying3 (i64_mk HC.out.1)) (ordR_mk ⟨o.level, o.number, o.hour, true⟩)
  change (Instr.mapUpdate 53 (.map (some mb)) (.int .i64 c.town) (.agg #[.int .i64 o.level, .int .i64 o.number, .int .i64 o.hour, .bool true])).run Try.prog V4.drew = .ok () w8 at hrun
  have hq8 : w8.heap[pb]? = some (.cells #[.int .i64 s.n, .int .i64 s.r, .map (some mb)] 55 (0, 0)) := (hgr.block pb (blk_lt HQ4.out) (fun e => hne (Option.some.inj e))).trans HQ4.out
  have hr8 : w8.heap[w.heap.size]? = some (.cells #[.int .i64 c.town, .int .i64 c.level, .int .i64 c.number, .int .i64 c.warden] 29 (0, 0)) := (hgr.block _ (blk_lt HR4.out) (fun e => by have := Option.some.inj e; omega)).trans HR4.out
  have hn8 : w8.heap[pn]? = some (.cells #[.int .i64 o.level, .int .i64 o.number, .int .i64 o.hour, .bool true] 60 (0, 0)) := (hgr.block _ (blk_lt HN4.out) (fun e => n2 (Option.some.inj e).symm)).trans HN4.out
  have hS8 : w8.cell? ⟨pb, 0, none⟩ = some (.int .i64 s.n) ∧ w8.cell? ⟨pb, 1, none⟩ = some (.int .i64 s.r) ∧ w8.cell? ⟨pb, 2, none⟩ = some (.map (some mb)) ∧ w8.cell? ⟨w.heap.size, 0, none⟩ = some (.int .i64 c.town) ∧ w8.cell? ⟨w.heap.size, 1, none⟩ = some (.int .i64 c.level) ∧ w8.cell? ⟨w.heap.size, 2, none⟩ = some (.int .i64 c.number) ∧ w8.cell? ⟨w.heap.size, 3, none⟩ = some (.int .i64 c.warden) ∧ w8.cell? ⟨pn, 0, none⟩ = some (.int .i64 o.level) ∧ w8.cell? ⟨pn, 1, none⟩ = some (.int .i64 o.number) ∧ w8.cell? ⟨pn, 2, none⟩ = some (.int .i64 o.hour) ∧ w8.cell? ⟨pn, 3, none⟩ = some (.bool true) := by
    obtain ⟨q0, q1, q2⟩ := row3 hq8
    obtain ⟨r0, r1, r2, r3⟩ := row4 hr8
    exact ⟨q0, q1, q2, r0, r1, r2, r3, row4 hn8⟩
  have hS5 : V4.drew.cell? ⟨pb, 0, none⟩ = some (.int .i64 s.n) ∧ V4.drew.cell? ⟨pb, 1, none⟩ = some (.int .i64 s.r) ∧ V4.drew.cell? ⟨pb, 2, none⟩ = some (.map (some mb)) ∧ V4.drew.cell? ⟨w.heap.size, 0, none⟩ = some (.int .i64 c.town) ∧ V4.drew.cell? ⟨w.heap.size, 1, none⟩ = some (.int .i64 c.level) ∧ V4.drew.cell? ⟨w.heap.size, 2, none⟩ = some (.int .i64 c.number) ∧ V4.drew.cell? ⟨w.heap.size, 3, none⟩ = some (.int .i64 c.warden) ∧ V4.drew.cell? ⟨pn, 0, none⟩ = some (.int .i64 o.level) ∧ V4.drew.cell? ⟨pn, 1, none⟩ = some (.int .i64 o.number) ∧ V4.drew.cell? ⟨pn, 2, none⟩ = some (.int .i64 o.hour) ∧ V4.drew.cell? ⟨pn, 3, none⟩ = some (.bool true) := by
    obtain ⟨q0, q1, q2⟩ := row3 HQ4.out
    obtain ⟨r0, r1, r2, r3⟩ := row4 HR4.out
    exact ⟨q0, q1, q2, r0, r1, r2, r3, row4 HN4.out⟩
  have HQ8 := Lib.hid hq8
  have HO8 := Lib.hid hown
  have HV8 := Lib.hid (HV4.out.drew.grown hgr)
  clear hown hgr hq8 hr8 hn8 HQ4 HR4 HN4 HM4 HV4
  refine wp_region_noPanic ?_
  refine wp_region_held_drew (S := fun w' => w'.cell? ⟨pb, 0, none⟩ = some (.int .i64 s.n) ∧ w'.cell? ⟨pb, 1, none⟩ = some (.int .i64 s.r) ∧ w'.cell? ⟨pb, 2, none⟩ = some (.map (some mb)) ∧ w'.cell? ⟨w.heap.size, 0, none⟩ = some (.int .i64 c.town) ∧ w'.cell? ⟨w.heap.size, 1, none⟩ = some (.int .i64 c.level) ∧ w'.cell? ⟨w.heap.size, 2, none⟩ = some (.int .i64 c.number) ∧ w'.cell? ⟨w.heap.size, 3, none⟩ = some (.int .i64 c.warden) ∧ w'.cell? ⟨pn, 0, none⟩ = some (.int .i64 o.level) ∧ w'.cell? ⟨pn, 1, none⟩ = some (.int .i64 o.number) ∧ w'.cell? ⟨pn, 2, none⟩ = some (.int .i64 o.hour) ∧ w'.cell? ⟨pn, 3, none⟩ = some (.bool true)) (by kernel_rfl) hS5 (fun hHeld => ?_)
  refine' wpAnyH_take (i := 0) (v := _) (by simp only [List.getElem?_toArray, List.getElem?_cons_zero]; exact rfl) (by kernel_rfl) (by kernel_rfl) (by kernel_rfl) (fun _ _ _ h => h) (Or.inl ⟨by rfl, ?y0x31⟩) hHeld ?r0x31
  case y0x31 => (intro w hSw; (try dsimp only at hSw); go_simp; try with_reducible rfl)
  try simp only [Act.put, List.setIfInBounds_toArray, List.set_cons_zero, List.set_cons_succ]
  refine' wpAnyH_take (i := 1) (v := _) (by simp only [List.getElem?_toArray, List.getElem?_cons_succ, List.getElem?_cons_zero]; exact rfl) (by kernel_rfl) (by kernel_rfl) (by kernel_rfl) (fun _ _ _ h => h) (Or.inl ⟨by rfl, ?y1x32⟩) hHeld ?r1x32
  case y1x32 => (intro w hSw; (try dsimp only at hSw); go_simp; try with_reducible rfl)
  try simp only [Act.put, List.setIfInBounds_toArray, List.set_cons_zero, List.set_cons_succ]
  refine' wpAnyH_take (i := 2) (v := _) (by simp only [List.getElem?_toArray, List.getElem?_cons_succ, List.getElem?_cons_zero]; exact rfl) (by kernel_rfl) (by kernel_rfl) (by kernel_rfl) (fun _ _ _ h => h) (Or.inl ⟨by rfl, ?y2x33⟩) hHeld ?r2x33
  case y2x33 => (intro w hSw; (try dsimp only at hSw); go_simp; try with_reducible rfl)
  try simp only [Act.put, List.setIfInBounds_toArray, List.set_cons_zero, List.set_cons_succ]
  refine' wpAnyH_take (i := 3) (v := _) (by simp only [List.getElem?_toArray, List.getElem?_cons_succ, List.getElem?_cons_zero]; exact rfl) (by kernel_rfl) (by kernel_rfl) (by kernel_rfl) (fun _ _ _ h => h) (Or.inl ⟨by rfl, ?y3x34⟩) hHeld ?r3x34
  case y3x34 => (intro w hSw; (try dsimp only at hSw); go_simp; try with_reducible rfl)
  try simp only [Act.put, List.setIfInBounds_toArray, List.set_cons_zero, List.set_cons_succ]
  refine' wpAnyH_take (i := 4) (v := _) (by simp only [List.getElem?_toArray, List.getElem?_cons_succ, List.getElem?_cons_zero]; exact rfl) (by kernel_rfl) (by kernel_rfl) (by kernel_rfl) (fun _ _ _ h => h) (Or.inl ⟨by rfl, ?y4x35⟩) hHeld ?r4x35
  case y4x35 => (intro w hSw; (try dsimp only at hSw); go_simp; try with_reducible rfl)
  try simp only [Act.put, List.setIfInBounds_toArray, List.set_cons_zero, List.set_cons_succ]
  refine' wpAnyH_take (i := 5) (v := _) (by simp only [List.getElem?_toArray, List.getElem?_cons_succ, List.getElem?_cons_zero]; exact rfl) (by kernel_rfl) (by kernel_rfl) (by kernel_rfl) (fun _ _ _ h => h) (Or.inl ⟨by rfl, ?y5x36⟩) hHeld ?r5x36
  case y5x36 => (intro w hSw; (try dsimp only at hSw); go_simp; try with_reducible rfl)
  try simp only [Act.put, List.setIfInBounds_toArray, List.set_cons_zero, List.set_cons_succ]
  refine' wpAnyH_take (i := 6) (v := _) (by simp only [List.getElem?_toArray, List.getElem?_cons_succ, List.getElem?_cons_zero]; exact rfl) (by kernel_rfl) (by kernel_rfl) (by kernel_rfl) (fun _ _ _ h => h) (Or.inl ⟨by rfl, ?y6x37⟩) hHeld ?r6x37
  case y6x37 => (intro w hSw; (try dsimp only at hSw); go_simp; try with_reducible rfl)
  try simp only [Act.put, List.setIfInBounds_toArray, List.set_cons_zero, List.set_cons_succ]
  refine wpAnyH_ready (rs := [7]) (by kernel_rfl) (by simp) ?_
  refine AllReadyH.cons (by simp only [List.getElem?_toArray, List.getElem?_cons_succ, List.getElem?_cons_zero]; exact rfl) (fun K hK => ?_) AllReadyH.nil
  go_simp
  refine hK.out _ _ (hS8) (fun hHeld => ?_)
  clear hK K
  try simp only [Act.put, List.setIfInBounds_toArray, List.set_cons_zero, List.set_cons_succ]
  refine wpAnyH_done (by kernel_rfl) ?_ _
  refine NoPanic.normal ?_
  clear hS5 hS8 hrun hHeld
  go_wp2_with fail
  go_ret
  refine ⟨by rw [HE.out]; rfl, ?_, HV8.out⟩
  rw [HE.out]
  refine ⟨HQ8.out, ?_⟩
  have := HO8.out
  rw [omD_put] at this
  exact MapAt.tight this
end Go.Proofs.Ythijckdablkofaa
