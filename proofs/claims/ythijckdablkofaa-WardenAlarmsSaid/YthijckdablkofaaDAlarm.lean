/- Package alarm: demand, Next and Run give levels from 0 to 3, one for each sight. -/
import Derived.Test.YthijckdablkofaaDSight
import Derived.Test.YthijckdablkofaaDAsideW
namespace Go.Proofs.Ythijckdablkofaa
open Go.RowKit
def Dem (w : World) (e : Ending) (w' : World) : Prop := ∃ d : Int, 0 ≤ d ∧ d ≤ 3 ∧ e = .returned (.int .i64 d) ∧ Below w.heap.size w w'
theorem dem_mk {w w' : World} {d : Int} (h1 : 0 ≤ d) (h2 : d ≤ 3) (hb : Below w.heap.size w w') : Dem w (.returned (.int .i64 d)) w' := ⟨d, h1, h2, rfl, hb⟩
set_option maxRecDepth 100000 in
set_option maxHeartbeats 2000000 in
theorem demand_any (nm : ByteArray) (p fl le pe wa qu cr : Int) (q : Bool) (w : World) (_hl : -9223372036854775808 ≤ le ∧ le ≤ 9223372036854775807) :
    Calls Try.prog 32 #[.agg #[.string nm, .int .i64 p, .int .i64 fl, .int .i64 le, .int .i64 pe, .int .i64 wa, .int .i64 qu], .agg #[.int .i64 cr, .bool q]] w (Dem w) := by
  go_enter Try.func32, Try.ntmps32
  go_wp2
  all_goals
    go_ret
    exact dem_mk (by decide) (by decide) (((Below.refl _ _).alloc (Nat.le_refl _) _).alloc (by simp) _)
structure AV where
  level : Int
  calm : Int
  after : Int
def AOk (a : AV) : Prop := 0 ≤ a.level ∧ a.level ≤ 3 ∧ 0 ≤ a.calm ∧ a.calm ≤ 2 ∧ 0 ≤ a.after ∧ a.after ≤ 3
def aCl (a : AV) : List Value := [.int .i64 a.level, .int .i64 a.calm, .int .i64 a.after]
def aRow (l : List AV) : List Value := l.flatMap aCl
def Nxt (w : World) (e : Ending) (w' : World) : Prop := ∃ a : AV, AOk a ∧ e = .returned (.agg #[.int .i64 a.level, .int .i64 a.calm, .int .i64 a.after]) ∧ Below w.heap.size w w'
theorem four_rows {w : World} {A B C D : Obj} : ((((w.alloc A).alloc B).alloc C).alloc D).heap.size = w.heap.size + 1 + 1 + 1 + 1 ∧ ((((w.alloc A).alloc B).alloc C).alloc D).heap[w.heap.size + 1]? = some B ∧
    ((((w.alloc A).alloc B).alloc C).alloc D).heap[w.heap.size + 1 + 1]? = some C ∧ ((((w.alloc A).alloc B).alloc C).alloc D).heap[w.heap.size + 1 + 1 + 1]? = some D := by
  have s1 : (w.alloc A).heap.size = w.heap.size + 1 := by simp
  have s2 : ((w.alloc A).alloc B).heap.size = w.heap.size + 1 + 1 := by simp
  have s3 : (((w.alloc A).alloc B).alloc C).heap.size = w.heap.size + 1 + 1 + 1 := by simp
  have r1 := heap_alloc_new (w.alloc A) B
  have r2 := heap_alloc_new ((w.alloc A).alloc B) C
  have r3 := heap_alloc_new (((w.alloc A).alloc B).alloc C) D
  rw [s1] at r1
  rw [s2] at r2
  rw [s3] at r3
  refine ⟨by simp, ?_, ?_, r3⟩
  · rw [heap_alloc_old _ _ (by omega), heap_alloc_old _ _ (by omega)]
    exact r1
  · rw [heap_alloc_old _ _ (by omega)]
    exact r2
theorem three_set {w : World} {b : Nat} {x y z u0 u1 u2 : Value} {t : TypeId} (h : w.heap[b]? = some (.cells #[x, y, z] t (0, 0))) : (((w.setCell ⟨b, 0, none⟩ u0).setCell ⟨b, 1, none⟩ u1).setCell ⟨b, 2, none⟩ u2).heap[b]? = some (.cells #[u0, u1, u2] t (0, 0)) := by
  have h1 := heap_setCell_same _ b 0 _ _ u0 h
  have h2 := heap_setCell_same _ b 1 _ _ u1 h1
  have h3 := heap_setCell_same _ b 2 _ _ u2 h2
  exact h3.trans rfl
theorem undAl : Try.prog.underlying 51 = some (.struct (Try.prog.fieldsOf 51)) := by kernel_rfl
theorem infoA : (Try.prog.info? 51).map (·.size) = some 3 := by kernel_rfl
theorem nxt_mk {w w' : World} {a b c : Int} (h : 0 ≤ a ∧ a ≤ 3 ∧ 0 ≤ b ∧ b ≤ 2 ∧ 0 ≤ c ∧ c ≤ 3) (hb : Below w.heap.size w w') : Nxt w (.returned (.agg #[.int .i64 a, .int .i64 b, .int .i64 c])) w' := ⟨⟨a, b, c⟩, h, rfl, hb⟩
set_option maxRecDepth 100000 in
set_option maxHeartbeats 8000000 in
theorem next_any (nm : ByteArray) (p fl le pe wa qu cr : Int) (q : Bool) (a : AV) (w : World) (hl : -9223372036854775808 ≤ le ∧ le ≤ 9223372036854775807) (ha : AOk a) :
    Calls Try.prog 28 #[.agg #[.string nm, .int .i64 p, .int .i64 fl, .int .i64 le, .int .i64 pe, .int .i64 wa, .int .i64 qu], .agg #[.int .i64 a.level, .int .i64 a.calm, .int .i64 a.after], .agg #[.int .i64 cr, .bool q]] w (Nxt w) := by
  obtain ⟨lv, cm, af⟩ := a
  unfold AOk at ha
  dsimp only at ha ⊢
  have hbl : w.heap.size ≤ w.heap.size + 1 + 1 + 1 := by omega
  go_enter Try.func28, Try.ntmps28
  go_wp2_with fail
  refine (demand_any _ _ _ _ _ _ _ _ _ _ hl).mono ?_
  rintro e w1 ⟨d, hd0, hd3, rfl, hb⟩
  obtain ⟨q0, q1, q2, q3⟩ := four_rows (w := w) (A := .cells #[.string nm, .int .i64 p, .int .i64 fl, .int .i64 le, .int .i64 pe, .int .i64 wa, .int .i64 qu] 46) (B := .cells #[.int .i64 lv, .int .i64 cm, .int .i64 af] 51)
    (C := .cells #[.int .i64 cr, .bool q] 70) (D := .cells #[.int .i64 0, .int .i64 0, .int .i64 0] 51)
  have hB0 : Below w.heap.size w ((((w.alloc (.cells #[.string nm, .int .i64 p, .int .i64 fl, .int .i64 le, .int .i64 pe, .int .i64 wa, .int .i64 qu] 46)).alloc (.cells #[.int .i64 lv, .int .i64 cm, .int .i64 af] 51)).alloc (.cells #[.int .i64 cr, .bool q] 70)).alloc (.cells #[.int .i64 0, .int .i64 0, .int .i64 0] 51)) :=
    ((((Below.refl _ _).alloc (Nat.le_refl _) _).alloc (by simp) _).alloc (by simp; omega) _).alloc (by simp; omega) _
  generalize ((((w.alloc (.cells #[.string nm, .int .i64 p, .int .i64 fl, .int .i64 le, .int .i64 pe, .int .i64 wa, .int .i64 qu] 46)).alloc (.cells #[.int .i64 lv, .int .i64 cm, .int .i64 af] 51)).alloc (.cells #[.int .i64 cr, .bool q] 70)).alloc (.cells #[.int .i64 0, .int .i64 0, .int .i64 0] 51)) = w0 at *
  have r1 := blk_below q1 hb (blk_lt q1)
  have r2 := blk_below q2 hb (blk_lt q2)
  have r3 := blk_below q3 hb (blk_lt q3)
  have HB1 := Lib.hid (hB0.trans (hb.mono hB0.size))
  obtain ⟨a0, a1, a2⟩ := row3 r1
  have s0 : w1.cell? ⟨w.heap.size + 1 + 1, 0, none⟩ = some (.int .i64 cr) := (cell_of_row _ _ _ _ _ _ r2).trans rfl
  obtain ⟨z0, z1, z2⟩ := row3 r3
  have f0 : ∀ j, w1.frozen? ⟨w.heap.size + 1 + 1 + 1, j, none⟩ = false := fun j => frozen_of_row _ _ _ _ _ r3
  have HR3 := Lib.hid r3
  clear q0 q1 q2 q3 hb hB0 r1 r2 r3
  go_wp2_with fail
  all_goals
    refine bodyPost_ret (v := .agg #[.int .i64 _, .int .i64 _, .int .i64 _]) (results_cell_row rfl _ _ _ 51 _ (0, 0) _ rfl (three_set HR3.out) undAl rfl infoA) rfl (nxt_mk (by omega) ?_)
    exact ((HB1.out.setCell hbl _).setCell hbl _).setCell hbl _
theorem row7 {w : World} {p : Nat} {fr : Nat × Nat} {ty : TypeId} {a b c d e f g : Value} (r : w.heap[p]? = some (.cells #[a, b, c, d, e, f, g] ty fr)) : w.cell? ⟨p, 0, none⟩ = some a ∧ w.cell? ⟨p, 1, none⟩ = some b ∧ w.cell? ⟨p, 2, none⟩ = some c ∧ w.cell? ⟨p, 3, none⟩ = some d ∧
    w.cell? ⟨p, 4, none⟩ = some e ∧ w.cell? ⟨p, 5, none⟩ = some f ∧ w.cell? ⟨p, 6, none⟩ = some g :=
  ⟨(cell_of_row _ _ _ _ _ _ r).trans rfl, (cell_of_row _ _ _ _ _ _ r).trans rfl, (cell_of_row _ _ _ _ _ _ r).trans rfl, (cell_of_row _ _ _ _ _ _ r).trans rfl, (cell_of_row _ _ _ _ _ _ r).trans rfl, (cell_of_row _ _ _ _ _ _ r).trans rfl, (cell_of_row _ _ _ _ _ _ r).trans rfl⟩
theorem grown_three {w : World} {b : Nat} {u0 u1 u2 : Value} : w.grownBy (((w.setCell ⟨b, 0, none⟩ u0).setCell ⟨b, 1, none⟩ u1).setCell ⟨b, 2, none⟩ u2) (some b) :=
  ⟨rfl, rfl, rfl, by simp, fun k _ h => by
    have hk : k ≠ b := fun e => h (by rw [e])
    rw [heap_setCell_other _ _ _ _ hk, heap_setCell_other _ _ _ _ hk, heap_setCell_other _ _ _ _ hk]⟩
theorem infoAl : ∃ i z, Try.prog.info? 51 = some i ∧ i.size = 3 ∧ i.zero = some z ∧ z.cells.size = 3 ∧ i.bytes ≤ 1024 := by
  have h : (Try.prog.info? 51).map (fun i => (i.size, i.zero.map (fun z => z.cells.size), decide (i.bytes ≤ 1024))) = some (3, some 3, true) := by kernel_rfl
  cases hi : Try.prog.info? 51 with
  | none => rw [hi] at h; cases h
  | some i =>
    rw [hi] at h
    simp only [Option.map_some, Option.some.injEq, Prod.mk.injEq, decide_eq_true_eq] at h
    obtain ⟨h1, h2, h3⟩ := h
    cases hz : i.zero with
    | none => rw [hz] at h2; cases h2
    | some z =>
      rw [hz] at h2
      exact ⟨i, z, rfl, h1, hz, by simpa using h2, h3⟩
theorem undAs : Try.prog.underlying 48 = some (.slice 51) := by kernel_rfl
set_option maxRecDepth 100000 in
set_option maxHeartbeats 8000000 in
theorem alarm_any (nm : ByteArray) (p fl le pe wa qu : Int) (v : Value) (l : List SightV) (w : World) (hl : -9223372036854775808 ≤ le ∧ le ≤ 9223372036854775807) (hS : LArg RSight 2 v l w) (hlen : l.length ≤ 40) :
    Calls Try.prog 24 #[.agg #[.string nm, .int .i64 p, .int .i64 fl, .int .i64 le, .int .i64 pe, .int .i64 wa, .int .i64 qu], v] w fun e w' => ∃ (u : Value) (ls : List AV), ls.length = l.length ∧ (∀ a ∈ ls, AOk a) ∧ e = .returned u ∧ w'.ownsRow w.heap.size 51 3 u ls.length (aRow ls) ∧ Below w.heap.size w w' := by
  have HS := Lib.hid hS
  obtain ⟨a, c, rfl, _, _⟩ := hS.slice
  obtain ⟨ic, zc, hic, hsz, hzc, hcz, hbc⟩ := infoAl
  clear hS
  go_enter Try.func24, Try.ntmps24
  go_upto_region 2 with (at_make; refine wpList_make_own _ rfl _ _ 48 rfl w.heap.size 51 ic zc 3 undAs hic hzc hsz .i64 .i64 l.length l.length rfl rfl rfl (Nat.le_trans (Nat.mul_le_mul hbc hlen) (by decide)) (by unfold maxLen; omega) (by simp) ?_; intro w3 hown hgr)
  have hT3 := hgr.block w.heap.size (by simp) (by simp)
  rw [heap_alloc_new] at hT3
  have HT3 := Lib.hid hT3
  have hB3 := ((Below.refl w.heap.size w).alloc (Nat.le_refl _) (.cells #[.string nm, .int .i64 p, .int .i64 fl, .int .i64 le, .int .i64 pe, .int .i64 wa, .int .i64 qu] 46)).grown hgr (by simp) (fun k e => by cases e)
  have hw3 : w.heap.size + 1 < w3.heap.size := by
    have := hown.lt (w.heap.size + 1) (by simp [Value.ownBlock])
    omega
  have hx4 : w.heap.size ≤ w3.heap.size := by omega
  have HO4 := Lib.hid (hown.alloc (.cells #[.int .i64 0, .int .i64 0, .int .i64 0] 51))
  have HB4 := Lib.hid (hB3.alloc hx4 (.cells #[.int .i64 0, .int .i64 0, .int .i64 0] 51))
  have HT4 := Lib.hid ((heap_alloc_old w3 (.cells #[.int .i64 0, .int .i64 0, .int .i64 0] 51) (blk_lt hT3)).trans hT3)
  have HA4 := Lib.hid (heap_alloc_new w3 (.cells #[.int .i64 0, .int .i64 0, .int .i64 0] 51))
  clear hT3 hown hgr hB3
  go_wp2_with fail
  generalize w3.alloc (.cells #[.int .i64 0, .int .i64 0, .int .i64 0] 51) = w4 at *
  generalize w3.heap.size = ba at *
  go_loopw [5, 15] (fun u i wr => ∃ (k : Nat) (ls : List AV) (x : AV), ls.length = k ∧ k ≤ l.length ∧ (∀ y ∈ ls, AOk y) ∧ AOk x ∧ i = .int .i64 k ∧ wr.ownsRow w.heap.size 51 3 u k (aRow ls) ∧ u.ownBlock ≠ some ba ∧
    wr.heap[w.heap.size]? = some (.cells #[.string nm, .int .i64 p, .int .i64 fl, .int .i64 le, .int .i64 pe, .int .i64 wa, .int .i64 qu] 46 (0, 0)) ∧ wr.heap[ba]? = some (.cells #[.int .i64 x.level, .int .i64 x.calm, .int .i64 x.after] 51 (0, 0)) ∧ Below w.heap.size w wr) (fun _ i _ => l.length - (intOf i).toNat)
  case atStart => exact ⟨0, [], ⟨0, 0, 0⟩, rfl, Nat.zero_le _, (fun y hy => by cases hy), by unfold AOk; decide, rfl, (by have h := HO4.out; rw [World.size_alloc] at h; exact h), by simp only [Value.ownBlock, ne_eq, Option.some.injEq]; omega, HT4.out, HA4.out, HB4.out⟩
  case round =>
    obtain ⟨k, ls, x, hlk, hk, hls, hx, rfl, hown, hnb, hT, hA, hB⟩ := hrel
    have HLK := Lib.hid hlk
    have HLS := Lib.hid hls
    have HOX := Lib.hid hx
    have HOk := Lib.hid hown
    have HNB := Lib.hid hnb
    have HTk := Lib.hid hT
    have HAk := Lib.hid hA
    have HBk := Lib.hid hB
    clear hlk hls hx hown hnb hT hA hB HO4 HT4 HA4 HB4
    by_cases hlt : k < l.length
    · obtain ⟨s, hs⟩ : ∃ s, l[k]? = some s := ⟨_, List.getElem?_eq_getElem hlt⟩
      obtain ⟨b, o, cs, ha, hbl, _, hrg, hcs⟩ := (HS.out.below stays_Sight HBk.out).at hs
      subst ha
      obtain ⟨rfl, hcb⟩ := hcs
      have c0 : wr.cell? ⟨b, o + k * 2, none⟩ = some (.int .i64 s.crest) := hrg 0 _ rfl
      have c1 : wr.cell? ⟨b, o + k * 2 + 1, none⟩ = some (.bool s.quorum) := hrg 1 _ rfl
      clear hs hrg hcb
      have hT5 := (heap_alloc_old wr (.cells #[.int .i64 s.crest, .bool s.quorum] 70) (blk_lt HTk.out)).trans HTk.out
      have hA5 := (heap_alloc_old wr (.cells #[.int .i64 s.crest, .bool s.quorum] 70) (blk_lt HAk.out)).trans HAk.out
      have hS5 := heap_alloc_new wr (.cells #[.int .i64 s.crest, .bool s.quorum] 70)
      have HO5 := Lib.hid (HOk.out.alloc (.cells #[.int .i64 s.crest, .bool s.quorum] 70))
      have HB5 := Lib.hid (HBk.out.alloc HBk.out.size (.cells #[.int .i64 s.crest, .bool s.quorum] 70))
      have HT5 := Lib.hid hT5
      have HA5 := Lib.hid hA5
      have HS5 := Lib.hid hS5
      clear hT5 hA5 hS5
      go_upto_region 6 with fail
      generalize wr.alloc (.cells #[.int .i64 s.crest, .bool s.quorum] 70) = w5 at *
      generalize wr.heap.size = bs at *
      clear c0 c1
      obtain ⟨t0, t1, t2, t3, t4, t5, t6⟩ := row7 HT5.out
      obtain ⟨a0, a1, a2⟩ := row3 HA5.out
      have s0 : w5.cell? ⟨bs, 0, none⟩ = some (.int .i64 s.crest) := (cell_of_row _ _ _ _ _ _ HS5.out).trans rfl
      have s1 : w5.cell? ⟨bs, 1, none⟩ = some (.bool s.quorum) := (cell_of_row _ _ _ _ _ _ HS5.out).trans rfl
      go_wp2_with fail
      refine (next_any nm p fl le pe wa qu s.crest s.quorum x _ hl HOX.out).mono ?_
      rintro e w6 ⟨y, hy, rfl, hb⟩
      have HY := Lib.hid hy
      have HA6 := Lib.hid (blk_below HA5.out hb (blk_lt HA5.out))
      have HT6 := Lib.hid (blk_below HT5.out hb (blk_lt HT5.out))
      have HO6 := Lib.hid (owns_below HO5.out hb)
      have HB6 := Lib.hid (HB5.out.trans (hb.mono HB5.out.size))
      clear hy hb t0 t1 t2 t3 t4 t5 t6 a0 a1 a2 s0 s1 HT5 HA5 HS5 HO5 HB5
      obtain ⟨a0, a1, a2⟩ := row3 HA6.out
      have f0 : ∀ j, w6.frozen? ⟨ba, j, none⟩ = false := fun j => frozen_of_row _ _ _ _ _ HA6.out
      go_upto_region 7 with fail
      have hg7 := grown_three (w := w6) (b := ba) (u0 := .int .i64 y.level) (u1 := .int .i64 y.calm) (u2 := .int .i64 y.after)
      have HA7 := Lib.hid (three_set (u0 := .int .i64 y.level) (u1 := .int .i64 y.calm) (u2 := .int .i64 y.after) HA6.out)
      have HT7 := Lib.hid ((hg7.block w.heap.size (blk_lt HT6.out) (fun e => by have := Option.some.inj e; omega)).trans HT6.out)
      have HO7 := Lib.hid (HO6.out.kept hg7 (Or.inr HNB.out))
      have HB7 := Lib.hid (HB6.out.grown hg7 HB6.out.size (fun g e => by have := Option.some.inj e; omega))
      clear hg7 HA6 HT6 HO6 HB6 a0 a1 a2 f0
      generalize ((w6.setCell ⟨ba, 0, none⟩ (.int .i64 y.level)).setCell ⟨ba, 1, none⟩ (.int .i64 y.calm)).setCell ⟨ba, 2, none⟩ (.int .i64 y.after) = w7 at *
      obtain ⟨a0, a1, a2⟩ := row3 HA7.out
      have hba7 := blk_lt HA7.out
      have hnew : ∀ i u, (aCl y)[i]? = some u → (w7.alloc (.cells #[.int .i64 y.level, .int .i64 y.calm, .int .i64 y.after] 51)).cell? ((⟨w7.heap.size, 0, none⟩ : Addr).add i) = some u := fun i u hi => by
        rw [Addr.add_mid, Nat.zero_add, cell_of_row _ _ _ _ _ _ (heap_alloc_new w7 (.cells #[.int .i64 y.level, .int .i64 y.calm, .int .i64 y.after] 51)), ← Array.getElem?_toList]
        exact hi
      have HO8 := Lib.hid (HO7.out.alloc (.cells #[.int .i64 y.level, .int .i64 y.calm, .int .i64 y.after] 51))
      have HB8 := Lib.hid (HB7.out.alloc HB7.out.size (.cells #[.int .i64 y.level, .int .i64 y.calm, .int .i64 y.after] 51))
      have HA8 := Lib.hid ((heap_alloc_old w7 (.cells #[.int .i64 y.level, .int .i64 y.calm, .int .i64 y.after] 51) hba7).trans HA7.out)
      have HT8 := Lib.hid ((heap_alloc_old w7 (.cells #[.int .i64 y.level, .int .i64 y.calm, .int .i64 y.after] 51) (blk_lt HT7.out)).trans HT7.out)
      have hl8 : (w7.alloc (.cells #[.int .i64 y.level, .int .i64 y.calm, .int .i64 y.after] 51)).heap.size = w7.heap.size + 1 := by simp
      have hby : (k + 1) * ic.bytes ≤ 140737488355328 := Nat.le_trans (Nat.mul_le_mul (show k + 1 ≤ 41 by omega) hbc) (by decide)
      have hone : ∀ u ∈ aCl y, u.oneCell' = true := by
        intro u hu
        simp only [aCl, List.mem_cons, List.not_mem_nil, or_false] at hu
        rcases hu with rfl | rfl | rfl <;> rfl
      go_wp2_with (at_builtin; refine Hid.out ?_)
      refine Lib.hid ?_
      refine wpList_append_own_at _ rfl _ _ 48 rfl w.heap.size 51 ic zc 3 ic.bytes undAs hic hzc hsz rfl hcz (by decide) _ k _ rfl HO8.out ⟨w7.heap.size, 0, none⟩ 1 1 (aCl y) rfl rfl hnew hone (by unfold maxLen; omega) hby HB8.out.size ?_
      intro v' w9 hown9 hgr9 _ hloc9
      have HO9 : Hid (w9.ownsRow w.heap.size 51 3 v' (k + 1) (aRow (ls ++ [y]))) := Lib.hid (by
        unfold aRow at hown9 ⊢
        rw [List.flatMap_append]
        simpa using hown9)
      have HNB9 : Hid (v'.ownBlock ≠ some ba) := Lib.hid (by
        rcases hloc9 with h | h
        · rw [h]; exact HNB.out
        · rw [h, hl8]
          intro e
          have := Option.some.inj e
          omega)
      have HA9 := Lib.hid ((hgr9.block ba (by omega) (fun e => HNB.out e.symm)).trans HA8.out)
      have HT9 := Lib.hid ((hgr9.block w.heap.size (blk_lt HT8.out) (fun e => own_ne HO8.out HT8.out (by decide) e.symm)).trans HT8.out)
      have HB9 := Lib.hid (HB8.out.grown hgr9 HB8.out.size (fun g e => (HO8.out.lt g e).1))
      clear hown9 hgr9 hloc9 hnew hone HO7 HB7 HA7 HT7 HO8 HB8 HA8 HT8 a0 a1 a2 hby
      go_wp2_with fail
      go_roundw
      case rel =>
        refine ⟨k + 1, ls ++ [y], y, by rw [List.length_append, HLK.out]; rfl, by omega, fun q hq => ?_, HY.out, by go_num, HO9.out, HNB9.out, HT9.out, HA9.out, HB9.out⟩
        rcases List.mem_append.1 hq with hq | hq
        · exact HLS.out q hq
        · rw [List.mem_singleton.1 hq]
          exact HY.out
      case measure => simp [intOf]; omega
    · obtain rfl : k = l.length := by omega
      go_wp2_with fail
      go_ret
      exact ⟨_, ls, HLK.out, HLS.out, rfl, by rw [HLK.out]; exact HOk.out, HBk.out⟩
end Go.Proofs.Ythijckdablkofaa
