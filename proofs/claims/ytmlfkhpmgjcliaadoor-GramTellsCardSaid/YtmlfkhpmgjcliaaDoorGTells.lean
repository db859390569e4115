/- bournelaw24.GramTells returns true. -/
import Derived.Test.YtmlfkhpmgjcliaaDoorGRefB
namespace Go.Proofs.YtmlfkhpmgjcliaaDoor
open Go.RowKit
/-- what both sides answer: T the tag, gb whether genuine, rb whether right, Y the bytes, y and is what is read -/
structure TellsAt (s t : ByteArray) (g : GV) (k : Nat) (T : ByteArray) (gb rb : Bool) (Y : ByteArray) (y : GV) (is : Bool) : Prop where
  se : ∀ w', Glob w' → MLen w' → Calls Tryd.prog 12 #[.string s, .agg #[.int .i64 g.gauge, .int .i64 g.seq, .int .i64 g.clock, .int .i64 g.value, .string g.tag]] w' fun e w'' => e = .returned (.agg #[.int .i64 g.gauge, .int .i64 g.seq, .int .i64 g.clock, .int .i64 g.value, .string T]) ∧ Below w'.heap.size w' w''
  rse : ∀ w', Calls Tryd.prog 13 #[.string s, .agg #[.int .i64 g.gauge, .int .i64 g.seq, .int .i64 g.clock, .int .i64 g.value, .string g.tag]] w' fun e w'' => e = .returned (.agg #[.int .i64 g.gauge, .int .i64 g.seq, .int .i64 g.clock, .int .i64 g.value, .string T]) ∧ Below w'.heap.size w' w''
  ge : ∀ w', Glob w' → MLen w' → Calls Tryd.prog 14 #[.string s, .agg #[.int .i64 g.gauge, .int .i64 g.seq, .int .i64 g.clock, .int .i64 g.value, .string g.tag]] w' fun e w'' => e = .returned (.bool gb) ∧ Below w'.heap.size w' w''
  rge : ∀ w', Calls Tryd.prog 15 #[.string s, .agg #[.int .i64 g.gauge, .int .i64 g.seq, .int .i64 g.clock, .int .i64 g.value, .string g.tag]] w' fun e w'' => e = .returned (.bool gb) ∧ Below w'.heap.size w' w''
  ri : ∀ p, ∀ w', Calls Tryd.prog 16 #[.agg #[.string ⟨#[]⟩, .slice none 0 0, .int .i64 0, .slice none 0 0, .slice none 0 0, .slice none 0 0, .slice p k k, .slice none 0 0, .slice none 0 0, .slice none 0 0, .int .i64 0], .agg #[.int .i64 g.gauge, .int .i64 g.seq, .int .i64 g.clock, .int .i64 g.value, .string g.tag]] w' fun e w'' => e = .returned (.bool rb) ∧ Below w'.heap.size w' w''
  rri : ∀ p, ∀ w', Calls Tryd.prog 17 #[.agg #[.string ⟨#[]⟩, .slice none 0 0, .int .i64 0, .slice none 0 0, .slice none 0 0, .slice none 0 0, .slice p k k, .slice none 0 0, .slice none 0 0, .slice none 0 0, .int .i64 0], .agg #[.int .i64 g.gauge, .int .i64 g.seq, .int .i64 g.clock, .int .i64 g.value, .string g.tag]] w' fun e w'' => e = .returned (.bool rb) ∧ Below w'.heap.size w' w''
  by' : ∀ w', MLen w' → Calls Tryd.prog 18 #[.agg #[.int .i64 g.gauge, .int .i64 g.seq, .int .i64 g.clock, .int .i64 g.value, .string g.tag]] w' fun e w'' => e = .returned (.string Y) ∧ Below w'.heap.size w' w''
  rby : ∀ w', Calls Tryd.prog 19 #[.agg #[.int .i64 g.gauge, .int .i64 g.seq, .int .i64 g.clock, .int .i64 g.value, .string g.tag]] w' fun e w'' => e = .returned (.string Y) ∧ Below w'.heap.size w' w''
  re : ∀ w', Calls Tryd.prog 10 #[.string t] w' fun e w'' => e = .returned (.tuple #[.agg #[.int .i64 y.gauge, .int .i64 y.seq, .int .i64 y.clock, .int .i64 y.value, .string y.tag], .bool is]) ∧ Below w'.heap.size w' w''
  rre : ∀ w', Calls Tryd.prog 11 #[.string t] w' fun e w'' => e = .returned (.tuple #[.agg #[.int .i64 y.gauge, .int .i64 y.seq, .int .i64 y.clock, .int .i64 y.value, .string y.tag], .bool is]) ∧ Below w'.heap.size w' w''
theorem tellsAt (s t : ByteArray) (g : GV) (k : Nat) (hs : s.size ≤ 300) (hg : g.tag.size ≤ 300) (ht : t.size ≤ 300) (hO : GOk g) : ∃ T gb rb Y y is, TellsAt s t g k T gb rb Y y is :=
  ⟨_, _, _, _, _, _, fun w' h1 h2 => seal_any s g w' hs hO h1 h2, fun w' => rseal_any s g w' hs hO, fun w' h1 h2 => genuine_any s g w' hs hO h1 h2, fun w' => rgenuine_any s g w' hs hO,
    fun p w' => gright24_any g hO p k k w', fun p w' => rright24_any g hO p k k w', fun w' h => bytes_any g w' hO h hg, fun w' => rbytes_any g w' hO hg, fun w' => read_any t w' (by omega), fun w' => rread_any t w' (by omega)⟩
theorem infoGauge2 : ∃ i z, Tryd.prog.info? 136 = some i ∧ i.zero = some z ∧ i.bytes * 200 ≤ 281474976710656 := by
  obtain ⟨i, z, h1, h2, h3⟩ := infoGauge
  refine ⟨i, z, h1, h2, ?_⟩
  have : (Tryd.prog.info? 136).map (fun i => decide (i.bytes * 200 ≤ 281474976710656)) = some true := by kernel_rfl
  rw [h1] at this
  exact of_decide_eq_true (Option.some.inj this)
theorem c11_step {cur w' : World} {p : Nat} {a0 a1 a2 a3 a4 a5 a6 a7 a8 a9 a10 : Value} (h : cur.cell? ⟨p, 0, none⟩ = some a0 ∧ cur.cell? ⟨p, 1, none⟩ = some a1 ∧ cur.cell? ⟨p, 2, none⟩ = some a2 ∧ cur.cell? ⟨p, 3, none⟩ = some a3 ∧ cur.cell? ⟨p, 4, none⟩ = some a4 ∧ cur.cell? ⟨p, 5, none⟩ = some a5 ∧ cur.cell? ⟨p, 6, none⟩ = some a6 ∧ cur.cell? ⟨p, 7, none⟩ = some a7 ∧ cur.cell? ⟨p, 8, none⟩ = some a8 ∧ cur.cell? ⟨p, 9, none⟩ = some a9 ∧ cur.cell? ⟨p, 10, none⟩ = some a10 ∧ p < cur.heap.size) (hb : Below cur.heap.size cur w') : w'.cell? ⟨p, 0, none⟩ = some a0 ∧ w'.cell? ⟨p, 1, none⟩ = some a1 ∧ w'.cell? ⟨p, 2, none⟩ = some a2 ∧ w'.cell? ⟨p, 3, none⟩ = some a3 ∧ w'.cell? ⟨p, 4, none⟩ = some a4 ∧ w'.cell? ⟨p, 5, none⟩ = some a5 ∧ w'.cell? ⟨p, 6, none⟩ = some a6 ∧ w'.cell? ⟨p, 7, none⟩ = some a7 ∧ w'.cell? ⟨p, 8, none⟩ = some a8 ∧ w'.cell? ⟨p, 9, none⟩ = some a9 ∧ w'.cell? ⟨p, 10, none⟩ = some a10 ∧ p < w'.heap.size := by
  obtain ⟨h0, h1, h2, h3, h4, h5, h6, h7, h8, h9, h10, hl⟩ := h
  exact ⟨(hb.cell (p := ⟨p, 0, none⟩) hl).trans h0, (hb.cell (p := ⟨p, 1, none⟩) hl).trans h1, (hb.cell (p := ⟨p, 2, none⟩) hl).trans h2, (hb.cell (p := ⟨p, 3, none⟩) hl).trans h3, (hb.cell (p := ⟨p, 4, none⟩) hl).trans h4, (hb.cell (p := ⟨p, 5, none⟩) hl).trans h5, (hb.cell (p := ⟨p, 6, none⟩) hl).trans h6, (hb.cell (p := ⟨p, 7, none⟩) hl).trans h7, (hb.cell (p := ⟨p, 8, none⟩) hl).trans h8, (hb.cell (p := ⟨p, 9, none⟩) hl).trans h9, (hb.cell (p := ⟨p, 10, none⟩) hl).trans h10, Nat.lt_of_lt_of_le hl hb.size⟩
theorem c11_row {cur : World} {p : Nat} {fr : Nat × Nat} {ty : TypeId} {a0 a1 a2 a3 a4 a5 a6 a7 a8 a9 a10 : Value} (h : cur.heap[p]? = some (.cells #[a0, a1, a2, a3, a4, a5, a6, a7, a8, a9, a10] ty fr)) : cur.cell? ⟨p, 0, none⟩ = some a0 ∧ cur.cell? ⟨p, 1, none⟩ = some a1 ∧ cur.cell? ⟨p, 2, none⟩ = some a2 ∧ cur.cell? ⟨p, 3, none⟩ = some a3 ∧ cur.cell? ⟨p, 4, none⟩ = some a4 ∧ cur.cell? ⟨p, 5, none⟩ = some a5 ∧ cur.cell? ⟨p, 6, none⟩ = some a6 ∧ cur.cell? ⟨p, 7, none⟩ = some a7 ∧ cur.cell? ⟨p, 8, none⟩ = some a8 ∧ cur.cell? ⟨p, 9, none⟩ = some a9 ∧ cur.cell? ⟨p, 10, none⟩ = some a10 ∧ p < cur.heap.size :=
  ⟨(cell_of_row _ _ _ _ _ _ h).trans rfl, (cell_of_row _ _ _ _ _ _ h).trans rfl, (cell_of_row _ _ _ _ _ _ h).trans rfl, (cell_of_row _ _ _ _ _ _ h).trans rfl, (cell_of_row _ _ _ _ _ _ h).trans rfl, (cell_of_row _ _ _ _ _ _ h).trans rfl, (cell_of_row _ _ _ _ _ _ h).trans rfl, (cell_of_row _ _ _ _ _ _ h).trans rfl, (cell_of_row _ _ _ _ _ _ h).trans rfl, (cell_of_row _ _ _ _ _ _ h).trans rfl, (cell_of_row _ _ _ _ _ _ h).trans rfl, blk_lt h⟩
set_option maxRecDepth 100000 in
set_option maxHeartbeats 8000000 in
theorem tells_core (s : ByteArray) (g : GV) (t : ByteArray) (n : Int) (w : World) (hO : GOk g) (hG : Glob w) (hM : MLen w) :
    Calls Tryd.prog 3 #[.string s, .agg #[.int .i64 g.gauge, .int .i64 g.seq, .int .i64 g.clock, .int .i64 g.value, .string g.tag], .string t, .int .i64 n] w fun e w' => e = .returned (.bool true) ∧ Below w.heap.size w w' := by
  obtain ⟨ig, zg, hig, hzg, hbg⟩ := infoGauge2
  have HO := Lib.hid hO
  have HG := Lib.hid hG
  have HM := Lib.hid hM
  have hB0 := (Below.refl w.heap.size w).alloc (Nat.le_refl _) (.cells #[.int .i64 g.gauge, .int .i64 g.seq, .int .i64 g.clock, .int .i64 g.value, .string g.tag] 23)
  have h00 := heap_alloc_new w (.cells #[.int .i64 g.gauge, .int .i64 g.seq, .int .i64 g.clock, .int .i64 g.value, .string g.tag] 23)
  clear hO hG hM
  go_enter Tryd.func3, Tryd.ntmps3
  go_wp2_with fail
  generalize (w.alloc (.cells #[.int .i64 g.gauge, .int .i64 g.seq, .int .i64 g.clock, .int .i64 g.value, .string g.tag] 23)) = w0 at *
  refine (small_any _ (HG.out.below hB0 HG.out.size) (HM.out.up hB0)).mono ?_
  rintro e w1 ⟨rfl, hb⟩
  have H1 := Lib.hid (blk_below h00 hb (blk_lt h00))
  have HB1 := Lib.hid (hB0.trans (hb.mono hB0.size))
  obtain ⟨x0, x1, x2, x3, x4⟩ := row5 H1.out
  clear h00 hB0 hb
  go_wp2_with fail
  refine (short_any _ _ _ _).mono ?_
  rintro e w1' ⟨rfl, rfl⟩
  by_cases hsh : s.size ≤ 300 ∧ g.tag.size ≤ 300 ∧ t.size ≤ 300
  case neg =>
    rw [decide_eq_false hsh]
    go_wp2_with fail
    go_ret
    exact ⟨rfl, HB1.out⟩
  rw [decide_eq_true hsh]
  obtain ⟨hs1, hs2, hs3⟩ := hsh
  by_cases hn0 : n < 0
  · go_wp2_with fail
    go_ret
    exact ⟨rfl, HB1.out⟩
  by_cases hn2 : 200 < n
  · go_wp2_with fail
    go_ret
    exact ⟨rfl, HB1.out⟩
  obtain ⟨k, hk⟩ : ∃ k : Nat, n = (k : Int) := ⟨n.toNat, by omega⟩
  subst hk
  have hk2 : k ≤ 200 := by omega
  obtain ⟨T, gb, rb, Y, y, is, hT⟩ := tellsAt s t g k hs1 hs2 hs3 HO.out
  have HT := Lib.hid hT
  clear hT
  have hbk : ig.bytes * k ≤ 281474976710656 := Nat.le_trans (Nat.mul_le_mul_left _ hk2) hbg
  go_upto_region 4 with fail
  clear x0 x1 x2 x3 x4
  go_upto_region 5 with (at_make; refine wpList_make_full _ rfl _ _ 26 rfl w.heap.size 136 ig zg _ undGs hig hzg rfl .i64 .i64 k k k rfl rfl rfl rfl hbk (by unfold maxLen; omega) HB1.out.size ?_; intro w5 hown hgr)
  have n8 : w5.heap[w.heap.size]? = some (.cells #[.int .i64 g.gauge, .int .i64 g.seq, .int .i64 g.clock, .int .i64 g.value, .string g.tag] 23 (0, 0)) := by rw [hgr.block _ (blk_lt H1.out) (by simp)]; exact H1.out
  have HB8 := HB1.out.grown hgr HB1.out.size (fun k e => by cases e)
  generalize w1.heap.size = q at *
  have H2 := Lib.hid (blk_below n8 ((Below.refl w5.heap.size w5).alloc (Nat.le_refl _) (.cells #[.string ⟨#[]⟩, .slice none 0 0, .int .i64 0, .slice none 0 0, .slice none 0 0, .slice none 0 0, .slice (some ⟨q, 0, none⟩) k k, .slice none 0 0, .slice none 0 0, .slice none 0 0, .int .i64 0] 35)) (blk_lt n8))
  have B2 := Lib.hid (heap_alloc_new w5 (.cells #[.string ⟨#[]⟩, .slice none 0 0, .int .i64 0, .slice none 0 0, .slice none 0 0, .slice none 0 0, .slice (some ⟨q, 0, none⟩) k k, .slice none 0 0, .slice none 0 0, .slice none 0 0, .int .i64 0] 35))
  have HB2 := Lib.hid (HB8.alloc HB8.size (.cells #[.string ⟨#[]⟩, .slice none 0 0, .int .i64 0, .slice none 0 0, .slice none 0 0, .slice none 0 0, .slice (some ⟨q, 0, none⟩) k k, .slice none 0 0, .slice none 0 0, .slice none 0 0, .int .i64 0] 35))
  clear n8 HB8 hown hgr H1 HB1 hig hzg hbk hbg
  generalize w5.alloc (.cells #[.string ⟨#[]⟩, .slice none 0 0, .int .i64 0, .slice none 0 0, .slice none 0 0, .slice none 0 0, .slice (some ⟨q, 0, none⟩) k k, .slice none 0 0, .slice none 0 0, .slice none 0 0, .int .i64 0] 35) = w6 at *
  generalize w5.heap.size = pb at *
  go_wp2_with fail
  refine (HT.out.re _).mono ?_
  rintro e w7 ⟨rfl, hb⟩
  have H3 := blk_below H2.out hb (blk_lt H2.out)
  have B3 := blk_below B2.out hb (blk_lt B2.out)
  have HB3 := HB2.out.trans (hb.mono HB2.out.size)
  have H4 := Lib.hid (blk_below H3 ((Below.refl w7.heap.size w7).alloc (Nat.le_refl _) (.cells #[.int .i64 y.gauge, .int .i64 y.seq, .int .i64 y.clock, .int .i64 y.value, .string y.tag] 23)) (blk_lt H3))
  have B4 := Lib.hid (blk_below B3 ((Below.refl w7.heap.size w7).alloc (Nat.le_refl _) (.cells #[.int .i64 y.gauge, .int .i64 y.seq, .int .i64 y.clock, .int .i64 y.value, .string y.tag] 23)) (blk_lt B3))
  have X4 := Lib.hid (heap_alloc_new w7 (.cells #[.int .i64 y.gauge, .int .i64 y.seq, .int .i64 y.clock, .int .i64 y.value, .string y.tag] 23))
  have HB4 := Lib.hid (HB3.alloc HB3.size (.cells #[.int .i64 y.gauge, .int .i64 y.seq, .int .i64 y.clock, .int .i64 y.value, .string y.tag] 23))
  clear H3 B3 HB3 hb H2 B2 HB2
  go_wp2_with fail
  generalize w7.alloc (.cells #[.int .i64 y.gauge, .int .i64 y.seq, .int .i64 y.clock, .int .i64 y.value, .string y.tag] 23) = w8 at *
  generalize w7.heap.size = px at *
  refine (HT.out.rre _).mono ?_
  rintro e w9 ⟨rfl, hb⟩
  have H5 := blk_below H4.out hb (blk_lt H4.out)
  have B5 := blk_below B4.out hb (blk_lt B4.out)
  have X5 := blk_below X4.out hb (blk_lt X4.out)
  have HB5 := HB4.out.trans (hb.mono HB4.out.size)
  have H6 := Lib.hid (blk_below H5 ((Below.refl w9.heap.size w9).alloc (Nat.le_refl _) (.cells #[.int .i64 y.gauge, .int .i64 y.seq, .int .i64 y.clock, .int .i64 y.value, .string y.tag] 23)) (blk_lt H5))
  have B6 := Lib.hid (blk_below B5 ((Below.refl w9.heap.size w9).alloc (Nat.le_refl _) (.cells #[.int .i64 y.gauge, .int .i64 y.seq, .int .i64 y.clock, .int .i64 y.value, .string y.tag] 23)) (blk_lt B5))
  have X6 := Lib.hid (blk_below X5 ((Below.refl w9.heap.size w9).alloc (Nat.le_refl _) (.cells #[.int .i64 y.gauge, .int .i64 y.seq, .int .i64 y.clock, .int .i64 y.value, .string y.tag] 23)) (blk_lt X5))
  have Y6 := Lib.hid (heap_alloc_new w9 (.cells #[.int .i64 y.gauge, .int .i64 y.seq, .int .i64 y.clock, .int .i64 y.value, .string y.tag] 23))
  have HB6 := Lib.hid (HB5.alloc HB5.size (.cells #[.int .i64 y.gauge, .int .i64 y.seq, .int .i64 y.clock, .int .i64 y.value, .string y.tag] 23))
  clear H5 B5 X5 HB5 hb H4 B4 X4 HB4
  go_upto_region 7 with fail
  generalize w9.alloc (.cells #[.int .i64 y.gauge, .int .i64 y.seq, .int .i64 y.clock, .int .i64 y.value, .string y.tag] 23) = wa at *
  generalize w9.heap.size = py at *
  have HS : Hid ((wa.drew.cell? ⟨w.heap.size, 0, none⟩ = some (.int .i64 g.gauge) ∧ wa.drew.cell? ⟨w.heap.size, 1, none⟩ = some (.int .i64 g.seq) ∧ wa.drew.cell? ⟨w.heap.size, 2, none⟩ = some (.int .i64 g.clock) ∧ wa.drew.cell? ⟨w.heap.size, 3, none⟩ = some (.int .i64 g.value) ∧ wa.drew.cell? ⟨w.heap.size, 4, none⟩ = some (.string g.tag) ∧ w.heap.size < wa.drew.heap.size) ∧ (wa.drew.cell? ⟨pb, 0, none⟩ = some (.string ⟨#[]⟩) ∧ wa.drew.cell? ⟨pb, 1, none⟩ = some (.slice none 0 0) ∧ wa.drew.cell? ⟨pb, 2, none⟩ = some (.int .i64 0) ∧ wa.drew.cell? ⟨pb, 3, none⟩ = some (.slice none 0 0) ∧ wa.drew.cell? ⟨pb, 4, none⟩ = some (.slice none 0 0) ∧ wa.drew.cell? ⟨pb, 5, none⟩ = some (.slice none 0 0) ∧ wa.drew.cell? ⟨pb, 6, none⟩ = some (.slice (some ⟨q, 0, none⟩) k k) ∧ wa.drew.cell? ⟨pb, 7, none⟩ = some (.slice none 0 0) ∧ wa.drew.cell? ⟨pb, 8, none⟩ = some (.slice none 0 0) ∧ wa.drew.cell? ⟨pb, 9, none⟩ = some (.slice none 0 0) ∧ wa.drew.cell? ⟨pb, 10, none⟩ = some (.int .i64 0) ∧ pb < wa.drew.heap.size) ∧ (wa.drew.cell? ⟨px, 0, none⟩ = some (.int .i64 y.gauge) ∧ wa.drew.cell? ⟨px, 1, none⟩ = some (.int .i64 y.seq) ∧ wa.drew.cell? ⟨px, 2, none⟩ = some (.int .i64 y.clock) ∧ wa.drew.cell? ⟨px, 3, none⟩ = some (.int .i64 y.value) ∧ wa.drew.cell? ⟨px, 4, none⟩ = some (.string y.tag) ∧ px < wa.drew.heap.size) ∧ (wa.drew.cell? ⟨py, 0, none⟩ = some (.int .i64 y.gauge) ∧ wa.drew.cell? ⟨py, 1, none⟩ = some (.int .i64 y.seq) ∧ wa.drew.cell? ⟨py, 2, none⟩ = some (.int .i64 y.clock) ∧ wa.drew.cell? ⟨py, 3, none⟩ = some (.int .i64 y.value) ∧ wa.drew.cell? ⟨py, 4, none⟩ = some (.string y.tag) ∧ py < wa.drew.heap.size) ∧ Below w.heap.size w wa.drew) := Lib.hid ⟨c5_row H6.out, c11_row B6.out, c5_row X6.out, c5_row Y6.out, HB6.out.drew⟩
  clear H6 B6 X6 Y6 HB6
  have heq1 := eqG y.gauge y.seq y.clock y.value y.gauge y.seq y.clock y.value y.tag y.tag
  rw [decide_eq_true ⟨rfl, rfl, rfl, rfl, rfl⟩] at heq1
  have heq2 := eqG g.gauge g.seq g.clock g.value g.gauge g.seq g.clock g.value T T
  rw [decide_eq_true ⟨rfl, rfl, rfl, rfl, rfl⟩] at heq2
  go_region_held3 (fun w' => (w'.cell? ⟨w.heap.size, 0, none⟩ = some (.int .i64 g.gauge) ∧ w'.cell? ⟨w.heap.size, 1, none⟩ = some (.int .i64 g.seq) ∧ w'.cell? ⟨w.heap.size, 2, none⟩ = some (.int .i64 g.clock) ∧ w'.cell? ⟨w.heap.size, 3, none⟩ = some (.int .i64 g.value) ∧ w'.cell? ⟨w.heap.size, 4, none⟩ = some (.string g.tag) ∧ w.heap.size < w'.heap.size) ∧ (w'.cell? ⟨pb, 0, none⟩ = some (.string ⟨#[]⟩) ∧ w'.cell? ⟨pb, 1, none⟩ = some (.slice none 0 0) ∧ w'.cell? ⟨pb, 2, none⟩ = some (.int .i64 0) ∧ w'.cell? ⟨pb, 3, none⟩ = some (.slice none 0 0) ∧ w'.cell? ⟨pb, 4, none⟩ = some (.slice none 0 0) ∧ w'.cell? ⟨pb, 5, none⟩ = some (.slice none 0 0) ∧ w'.cell? ⟨pb, 6, none⟩ = some (.slice (some ⟨q, 0, none⟩) k k) ∧ w'.cell? ⟨pb, 7, none⟩ = some (.slice none 0 0) ∧ w'.cell? ⟨pb, 8, none⟩ = some (.slice none 0 0) ∧ w'.cell? ⟨pb, 9, none⟩ = some (.slice none 0 0) ∧ w'.cell? ⟨pb, 10, none⟩ = some (.int .i64 0) ∧ pb < w'.heap.size) ∧ (w'.cell? ⟨px, 0, none⟩ = some (.int .i64 y.gauge) ∧ w'.cell? ⟨px, 1, none⟩ = some (.int .i64 y.seq) ∧ w'.cell? ⟨px, 2, none⟩ = some (.int .i64 y.clock) ∧ w'.cell? ⟨px, 3, none⟩ = some (.int .i64 y.value) ∧ w'.cell? ⟨px, 4, none⟩ = some (.string y.tag) ∧ px < w'.heap.size) ∧ (w'.cell? ⟨py, 0, none⟩ = some (.int .i64 y.gauge) ∧ w'.cell? ⟨py, 1, none⟩ = some (.int .i64 y.seq) ∧ w'.cell? ⟨py, 2, none⟩ = some (.int .i64 y.clock) ∧ w'.cell? ⟨py, 3, none⟩ = some (.int .i64 y.value) ∧ w'.cell? ⟨py, 4, none⟩ = some (.string y.tag) ∧ py < w'.heap.size) ∧ Below w.heap.size w w') (first | assumption | exact HS.out | exact ⟨c5_step (show _ ∧ (_ ∧ _) ∧ (_ ∧ _) ∧ (_ ∧ _) ∧ Below w.heap.size w _ by assumption).1 hb, c11_step (show _ ∧ (_ ∧ _) ∧ (_ ∧ _) ∧ (_ ∧ _) ∧ Below w.heap.size w _ by assumption).2.1 hb, c5_step (show _ ∧ (_ ∧ _) ∧ (_ ∧ _) ∧ (_ ∧ _) ∧ Below w.heap.size w _ by assumption).2.2.1 hb, c5_step (show _ ∧ (_ ∧ _) ∧ (_ ∧ _) ∧ (_ ∧ _) ∧ Below w.heap.size w _ by assumption).2.2.2.1 hb, (show _ ∧ (_ ∧ _) ∧ (_ ∧ _) ∧ (_ ∧ _) ∧ Below w.heap.size w _ by assumption).2.2.2.2.trans (hb.mono (show _ ∧ (_ ∧ _) ∧ (_ ∧ _) ∧ (_ ∧ _) ∧ Below w.heap.size w _ by assumption).2.2.2.2.size)⟩) ((first | (go_at_call 12; refine (HT.out.se _ (HG.out.below (show (_ ∧ _) ∧ (_ ∧ _) ∧ (_ ∧ _) ∧ (_ ∧ _) ∧ Below w.heap.size w _ by assumption).2.2.2.2 HG.out.size) (HM.out.up (show (_ ∧ _) ∧ (_ ∧ _) ∧ (_ ∧ _) ∧ (_ ∧ _) ∧ Below w.heap.size w _ by assumption).2.2.2.2)).mono ?_; rintro e w' ⟨rfl, hb⟩) | (go_at_call 13; refine (HT.out.rse _).mono ?_; rintro e w' ⟨rfl, hb⟩) | (go_at_call 14; refine (HT.out.ge _ (HG.out.below (show (_ ∧ _) ∧ (_ ∧ _) ∧ (_ ∧ _) ∧ (_ ∧ _) ∧ Below w.heap.size w _ by assumption).2.2.2.2 HG.out.size) (HM.out.up (show (_ ∧ _) ∧ (_ ∧ _) ∧ (_ ∧ _) ∧ (_ ∧ _) ∧ Below w.heap.size w _ by assumption).2.2.2.2)).mono ?_; rintro e w' ⟨rfl, hb⟩) | (go_at_call 15; refine (HT.out.rge _).mono ?_; rintro e w' ⟨rfl, hb⟩) | (go_at_call 16; refine (HT.out.ri _ _).mono ?_; rintro e w' ⟨rfl, hb⟩) | (go_at_call 17; refine (HT.out.rri _ _).mono ?_; rintro e w' ⟨rfl, hb⟩) | (go_at_call 18; refine (HT.out.by' _ (HM.out.up (show (_ ∧ _) ∧ (_ ∧ _) ∧ (_ ∧ _) ∧ (_ ∧ _) ∧ Below w.heap.size w _ by assumption).2.2.2.2)).mono ?_; rintro e w' ⟨rfl, hb⟩) | (go_at_call 19; refine (HT.out.rby _).mono ?_; rintro e w' ⟨rfl, hb⟩)))
  all_goals (
    have HBf := Lib.hid (show (_ ∧ _) ∧ (_ ∧ _) ∧ (_ ∧ _) ∧ (_ ∧ _) ∧ Below w.heap.size w _ by assumption).2.2.2.2
    go_wp2_with fail
    go_ret
    exact ⟨rfl, HBf.out⟩)
end Go.Proofs.YtmlfkhpmgjcliaaDoor
