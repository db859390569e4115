/- bournelaw24.GramSeals returns true. -/
import Derived.Test.YtmlfkhpmgjcliaaDoorGOrders
namespace Go.Proofs.YtmlfkhpmgjcliaaDoor
open Go.RowKit
/-- what the walk needs to know of the functions' answers: T is the tag, X the bytes of the sealed telegram, Y those of the telegram itself, D the digest -/
structure SealsAt (s : ByteArray) (g : GV) (T : ByteArray) (bx bg bq : Bool) (gB : ByteArray → Bool) (yB : ByteArray → ByteArray) : Prop where
  hT : T.size = 8
  sealg : ∀ w', Glob w' → MLen w' → Calls Tryd.prog 12 #[.string s, .agg #[.int .i64 g.gauge, .int .i64 g.seq, .int .i64 g.clock, .int .i64 g.value, .string g.tag]] w' fun e w'' => e = .returned (.agg #[.int .i64 g.gauge, .int .i64 g.seq, .int .i64 g.clock, .int .i64 g.value, .string T]) ∧ Below w'.heap.size w' w''
  sealx : ∀ w', Glob w' → MLen w' → Calls Tryd.prog 12 #[.string s, .agg #[.int .i64 g.gauge, .int .i64 g.seq, .int .i64 g.clock, .int .i64 g.value, .string T]] w' fun e w'' => e = .returned (.agg #[.int .i64 g.gauge, .int .i64 g.seq, .int .i64 g.clock, .int .i64 g.value, .string T]) ∧ Below w'.heap.size w' w''
  gen : ∀ t, ∀ w', Glob w' → MLen w' → Calls Tryd.prog 14 #[.string s, .agg #[.int .i64 g.gauge, .int .i64 g.seq, .int .i64 g.clock, .int .i64 g.value, .string t]] w' fun e w'' => e = .returned (.bool (gB t)) ∧ Below w'.heap.size w' w''
  byt : ∀ t, t.size ≤ 300 → ∀ w', MLen w' → Calls Tryd.prog 18 #[.agg #[.int .i64 g.gauge, .int .i64 g.seq, .int .i64 g.clock, .int .i64 g.value, .string t]] w' fun e w'' => e = .returned (.string (yB t)) ∧ Below w'.heap.size w' w''
  gBT : gB T = bx
  gBg : gB g.tag = (bq && bg)
  neX : ((yB T).toList == []) = !bx
  neY : ((yB g.tag).toList == []) = !bg
  eqT : decide (g.tag = T) = bq
theorem tagL_of (s : ByteArray) (g : GV) (T : ByteArray) : tagL s ⟨g.gauge, g.seq, g.clock, g.value, T⟩ = tagL s g := rfl
theorem ne_gram (g : GV) : ((⟨(gramL g).toArray⟩ : ByteArray).toList == []) = !decide (Formed g) := by
  rw [ByteArray.toList_eq]
  by_cases hf : Formed g
  · rw [decide_eq_true hf, Bool.not_true, beq_eq_false_iff_ne]
    exact fun e => (gramL_nil.1 e) hf
  · rw [decide_eq_false hf, Bool.not_false, beq_iff_eq]
    exact gramL_nil.2 hf
theorem sealsAt (s : ByteArray) (g : GV) (hs : s.size ≤ 300) (hO : GOk g) : ∃ T bx bg bq gB yB, SealsAt s g T bx bg bq gB yB ∧ T = ⟨(tagL s g).toArray⟩ := by
  have hl : (⟨(tagL s g).toArray⟩ : ByteArray).size = 8 := tagL_len s g
  have hx : ∀ t, GOk ⟨g.gauge, g.seq, g.clock, g.value, t⟩ := fun _ => hO
  refine ⟨⟨(tagL s g).toArray⟩, decide (Formed ⟨g.gauge, g.seq, g.clock, g.value, ⟨(tagL s g).toArray⟩⟩), decide (Formed g), decide (g.tag = ⟨(tagL s g).toArray⟩), fun t => genB s ⟨g.gauge, g.seq, g.clock, g.value, t⟩, fun t => ⟨(gramL ⟨g.gauge, g.seq, g.clock, g.value, t⟩).toArray⟩, ⟨hl, ?_, ?_, ?_, ?_, ?_, ?_, ?_, ?_, rfl⟩, rfl⟩
  · exact fun w' hG hM => seal_any s g w' hs hO hG hM
  · exact fun w' hG hM => seal_any s ⟨g.gauge, g.seq, g.clock, g.value, ⟨(tagL s g).toArray⟩⟩ w' hs (hx _) hG hM
  · exact fun t w' hG hM => genuine_any s ⟨g.gauge, g.seq, g.clock, g.value, t⟩ w' hs (hx t) hG hM
  · exact fun t ht w' hM => bytes_any ⟨g.gauge, g.seq, g.clock, g.value, t⟩ w' (hx t) hM ht
  · simp only [genB]
    simp only [and_iff_left_iff_imp, decide_eq_decide]
    intro _
    rfl
  · show genB s g = _
    unfold genB
    rw [Bool.decide_and, Bool.and_comm]
  · exact ne_gram _
  · exact ne_gram g
theorem c5_step {cur w' : World} {p : Nat} {a0 a1 a2 a3 a4 : Value} (h : cur.cell? ⟨p, 0, none⟩ = some a0 ∧ cur.cell? ⟨p, 1, none⟩ = some a1 ∧ cur.cell? ⟨p, 2, none⟩ = some a2 ∧ cur.cell? ⟨p, 3, none⟩ = some a3 ∧ cur.cell? ⟨p, 4, none⟩ = some a4 ∧ p < cur.heap.size) (hb : Below cur.heap.size cur w') : w'.cell? ⟨p, 0, none⟩ = some a0 ∧ w'.cell? ⟨p, 1, none⟩ = some a1 ∧ w'.cell? ⟨p, 2, none⟩ = some a2 ∧ w'.cell? ⟨p, 3, none⟩ = some a3 ∧ w'.cell? ⟨p, 4, none⟩ = some a4 ∧ p < w'.heap.size :=
  ⟨(hb.cell (p := ⟨p, 0, none⟩) h.2.2.2.2.2).trans h.1, (hb.cell (p := ⟨p, 1, none⟩) h.2.2.2.2.2).trans h.2.1, (hb.cell (p := ⟨p, 2, none⟩) h.2.2.2.2.2).trans h.2.2.1, (hb.cell (p := ⟨p, 3, none⟩) h.2.2.2.2.2).trans h.2.2.2.1, (hb.cell (p := ⟨p, 4, none⟩) h.2.2.2.2.2).trans h.2.2.2.2.1, Nat.lt_of_lt_of_le h.2.2.2.2.2 hb.size⟩
theorem c5_row {cur : World} {p : Nat} {fr : Nat × Nat} {ty : TypeId} {a0 a1 a2 a3 a4 : Value} (h : cur.heap[p]? = some (.cells #[a0, a1, a2, a3, a4] ty fr)) : cur.cell? ⟨p, 0, none⟩ = some a0 ∧ cur.cell? ⟨p, 1, none⟩ = some a1 ∧ cur.cell? ⟨p, 2, none⟩ = some a2 ∧ cur.cell? ⟨p, 3, none⟩ = some a3 ∧ cur.cell? ⟨p, 4, none⟩ = some a4 ∧ p < cur.heap.size :=
  ⟨(row5 h).1, (row5 h).2.1, (row5 h).2.2.1, (row5 h).2.2.2.1, (row5 h).2.2.2.2, blk_lt h⟩
theorem s15_step {w cur w' : World} {p q r : Nat} {a0 a1 a2 a3 a4 b0 b1 b2 b3 b4 c0 c1 c2 c3 c4 : Value} (h : (cur.cell? ⟨p, 0, none⟩ = some a0 ∧ cur.cell? ⟨p, 1, none⟩ = some a1 ∧ cur.cell? ⟨p, 2, none⟩ = some a2 ∧ cur.cell? ⟨p, 3, none⟩ = some a3 ∧ cur.cell? ⟨p, 4, none⟩ = some a4 ∧ p < cur.heap.size) ∧ (cur.cell? ⟨q, 0, none⟩ = some b0 ∧ cur.cell? ⟨q, 1, none⟩ = some b1 ∧ cur.cell? ⟨q, 2, none⟩ = some b2 ∧ cur.cell? ⟨q, 3, none⟩ = some b3 ∧ cur.cell? ⟨q, 4, none⟩ = some b4 ∧ q < cur.heap.size) ∧ (cur.cell? ⟨r, 0, none⟩ = some c0 ∧ cur.cell? ⟨r, 1, none⟩ = some c1 ∧ cur.cell? ⟨r, 2, none⟩ = some c2 ∧ cur.cell? ⟨r, 3, none⟩ = some c3 ∧ cur.cell? ⟨r, 4, none⟩ = some c4 ∧ r < cur.heap.size) ∧ Below w.heap.size w cur) (hb : Below cur.heap.size cur w') : (w'.cell? ⟨p, 0, none⟩ = some a0 ∧ w'.cell? ⟨p, 1, none⟩ = some a1 ∧ w'.cell? ⟨p, 2, none⟩ = some a2 ∧ w'.cell? ⟨p, 3, none⟩ = some a3 ∧ w'.cell? ⟨p, 4, none⟩ = some a4 ∧ p < w'.heap.size) ∧ (w'.cell? ⟨q, 0, none⟩ = some b0 ∧ w'.cell? ⟨q, 1, none⟩ = some b1 ∧ w'.cell? ⟨q, 2, none⟩ = some b2 ∧ w'.cell? ⟨q, 3, none⟩ = some b3 ∧ w'.cell? ⟨q, 4, none⟩ = some b4 ∧ q < w'.heap.size) ∧ (w'.cell? ⟨r, 0, none⟩ = some c0 ∧ w'.cell? ⟨r, 1, none⟩ = some c1 ∧ w'.cell? ⟨r, 2, none⟩ = some c2 ∧ w'.cell? ⟨r, 3, none⟩ = some c3 ∧ w'.cell? ⟨r, 4, none⟩ = some c4 ∧ r < w'.heap.size) ∧ Below w.heap.size w w' :=
  ⟨c5_step h.1 hb, c5_step h.2.1 hb, c5_step h.2.2.1 hb, h.2.2.2.trans (hb.mono h.2.2.2.size)⟩
theorem s15_drew {w cur : World} {p q r : Nat} {a0 a1 a2 a3 a4 b0 b1 b2 b3 b4 c0 c1 c2 c3 c4 : Value} (h : (cur.cell? ⟨p, 0, none⟩ = some a0 ∧ cur.cell? ⟨p, 1, none⟩ = some a1 ∧ cur.cell? ⟨p, 2, none⟩ = some a2 ∧ cur.cell? ⟨p, 3, none⟩ = some a3 ∧ cur.cell? ⟨p, 4, none⟩ = some a4 ∧ p < cur.heap.size) ∧ (cur.cell? ⟨q, 0, none⟩ = some b0 ∧ cur.cell? ⟨q, 1, none⟩ = some b1 ∧ cur.cell? ⟨q, 2, none⟩ = some b2 ∧ cur.cell? ⟨q, 3, none⟩ = some b3 ∧ cur.cell? ⟨q, 4, none⟩ = some b4 ∧ q < cur.heap.size) ∧ (cur.cell? ⟨r, 0, none⟩ = some c0 ∧ cur.cell? ⟨r, 1, none⟩ = some c1 ∧ cur.cell? ⟨r, 2, none⟩ = some c2 ∧ cur.cell? ⟨r, 3, none⟩ = some c3 ∧ cur.cell? ⟨r, 4, none⟩ = some c4 ∧ r < cur.heap.size) ∧ Below w.heap.size w cur) : (cur.drew.cell? ⟨p, 0, none⟩ = some a0 ∧ cur.drew.cell? ⟨p, 1, none⟩ = some a1 ∧ cur.drew.cell? ⟨p, 2, none⟩ = some a2 ∧ cur.drew.cell? ⟨p, 3, none⟩ = some a3 ∧ cur.drew.cell? ⟨p, 4, none⟩ = some a4 ∧ p < cur.drew.heap.size) ∧ (cur.drew.cell? ⟨q, 0, none⟩ = some b0 ∧ cur.drew.cell? ⟨q, 1, none⟩ = some b1 ∧ cur.drew.cell? ⟨q, 2, none⟩ = some b2 ∧ cur.drew.cell? ⟨q, 3, none⟩ = some b3 ∧ cur.drew.cell? ⟨q, 4, none⟩ = some b4 ∧ q < cur.drew.heap.size) ∧ (cur.drew.cell? ⟨r, 0, none⟩ = some c0 ∧ cur.drew.cell? ⟨r, 1, none⟩ = some c1 ∧ cur.drew.cell? ⟨r, 2, none⟩ = some c2 ∧ cur.drew.cell? ⟨r, 3, none⟩ = some c3 ∧ cur.drew.cell? ⟨r, 4, none⟩ = some c4 ∧ r < cur.drew.heap.size) ∧ Below w.heap.size w cur.drew :=
  ⟨h.1, h.2.1, h.2.2.1, h.2.2.2.drew⟩
theorem s5b_step {w W cur w' : World} {p : Nat} {a0 a1 a2 a3 a4 : Value} (h : cur.cell? ⟨p, 0, none⟩ = some a0 ∧ cur.cell? ⟨p, 1, none⟩ = some a1 ∧ cur.cell? ⟨p, 2, none⟩ = some a2 ∧ cur.cell? ⟨p, 3, none⟩ = some a3 ∧ cur.cell? ⟨p, 4, none⟩ = some a4 ∧ p < cur.heap.size ∧ Below w.heap.size w cur ∧ Below W.heap.size W cur) (hb : Below cur.heap.size cur w') : w'.cell? ⟨p, 0, none⟩ = some a0 ∧ w'.cell? ⟨p, 1, none⟩ = some a1 ∧ w'.cell? ⟨p, 2, none⟩ = some a2 ∧ w'.cell? ⟨p, 3, none⟩ = some a3 ∧ w'.cell? ⟨p, 4, none⟩ = some a4 ∧ p < w'.heap.size ∧ Below w.heap.size w w' ∧ Below W.heap.size W w' := by
  obtain ⟨h0, h1, h2, h3, h4, h5, h6, h7⟩ := h
  obtain ⟨k0, k1, k2, k3, k4, k5⟩ := c5_step ⟨h0, h1, h2, h3, h4, h5⟩ hb
  exact ⟨k0, k1, k2, k3, k4, k5, h6.trans (hb.mono h6.size), h7.trans (hb.mono h7.size)⟩
set_option maxRecDepth 100000 in
set_option maxHeartbeats 8000000 in
theorem seals_core (s : ByteArray) (g : GV) (w : World) (hO : GOk g) (hG : Glob w) (hM : MLen w) :
    Calls Tryd.prog 6 #[.string s, .agg #[.int .i64 g.gauge, .int .i64 g.seq, .int .i64 g.clock, .int .i64 g.value, .string g.tag]] w fun e w' => e = .returned (.bool true) ∧ Below w.heap.size w w' := by
  obtain ⟨fs, hu⟩ := undG
  have HO := Lib.hid hO
  have HG := Lib.hid hG
  have HM := Lib.hid hM
  have hB0 := (Below.refl w.heap.size w).alloc (Nat.le_refl _) (.cells #[.int .i64 g.gauge, .int .i64 g.seq, .int .i64 g.clock, .int .i64 g.value, .string g.tag] 23)
  have h00 := heap_alloc_new w (.cells #[.int .i64 g.gauge, .int .i64 g.seq, .int .i64 g.clock, .int .i64 g.value, .string g.tag] 23)
  clear hO hG hM
  go_enter Tryd.func6, Tryd.ntmps6
  go_wp2_with fail
  generalize (w.alloc (.cells #[.int .i64 g.gauge, .int .i64 g.seq, .int .i64 g.clock, .int .i64 g.value, .string g.tag] 23)) = w0 at *
  refine (small_any _ (HG.out.below hB0 HG.out.size) (HM.out.up hB0)).mono ?_
  rintro e w1 ⟨rfl, hb⟩
  have H1 := Lib.hid (blk_below h00 hb (blk_lt h00))
  have HB1 := Lib.hid (hB0.trans (hb.mono hB0.size))
  obtain ⟨x0, x1, x2, x3, x4⟩ := row5 H1.out
  clear h00 hB0 hb
  go_wp2_with fail
  refine (short_any _ _ _ _).mono ?_
  rintro e w1' ⟨rfl, rfl⟩
  by_cases hsh : s.size ≤ 300 ∧ g.tag.size ≤ 300 ∧ (⟨#[]⟩ : ByteArray).size ≤ 300
  case neg =>
    rw [decide_eq_false hsh]
    go_wp2_with fail
    go_ret
    exact ⟨rfl, HB1.out⟩
  rw [decide_eq_true hsh]
  obtain ⟨hs1, hs2, _⟩ := hsh
  obtain ⟨T, bx, bg, bq, gB, yB, hAt, hTd⟩ := sealsAt s g hs1 HO.out
  have HAt := Lib.hid hAt
  have HTd := Lib.hid hTd
  clear hAt hTd
  go_wp2_with fail
  refine (HAt.out.sealg _ (HG.out.below HB1.out HG.out.size) (HM.out.up HB1.out)).mono ?_
  rintro e w2 ⟨rfl, hb⟩
  have H2 := Lib.hid (blk_below H1.out hb (blk_lt H1.out))
  have HB2 := Lib.hid (HB1.out.trans (hb.mono HB1.out.size))
  clear x0 x1 x2 x3 x4 hb H1 HB1
  obtain ⟨x0, x1, x2, x3, x4⟩ := row5 H2.out
  have hlt := blk_lt H2.out
  go_upto_region 7 with fail
  have hB3 : Below w2.heap.size w2 ((w2.alloc (.cells #[.int .i64 g.gauge, .int .i64 g.seq, .int .i64 g.clock, .int .i64 g.value, .string T] 23)).alloc (.cells #[.int .i64 g.gauge, .int .i64 g.seq, .int .i64 g.clock, .int .i64 g.value, .string g.tag] 23)) := ((Below.refl _ _).alloc (Nat.le_refl _) _).alloc (by simp) _
  have H3 := Lib.hid (blk_below H2.out hB3 hlt)
  have hXY := two_rows' (w := w2) (A := (.cells #[.int .i64 g.gauge, .int .i64 g.seq, .int .i64 g.clock, .int .i64 g.value, .string T] 23)) (B := (.cells #[.int .i64 g.gauge, .int .i64 g.seq, .int .i64 g.clock, .int .i64 g.value, .string g.tag] 23))
  have X3 := Lib.hid hXY.1
  have Y3 := Lib.hid hXY.2
  have HB3 := Lib.hid (HB2.out.trans (hB3.mono HB2.out.size))
  clear x0 x1 x2 x3 x4 hlt hB3 hXY H2 HB2
  generalize (w2.alloc (.cells #[.int .i64 g.gauge, .int .i64 g.seq, .int .i64 g.clock, .int .i64 g.value, .string T] 23)).alloc (.cells #[.int .i64 g.gauge, .int .i64 g.seq, .int .i64 g.clock, .int .i64 g.value, .string g.tag] 23) = w3 at *
  generalize w2.heap.size = px at *
  have hl1 := text_len s
  have hl3 : (textL ({ data := #[103, 114, 97, 109] } : ByteArray).data.toList).length = 6 := by decide
  obtain ⟨K, hK⟩ : ∃ K : ByteArray → ByteArray, ∀ t, K t = ⟨(textL t.data.toList).toArray⟩ := ⟨_, fun _ => rfl⟩
  obtain ⟨J, hJ⟩ : ∃ J : Int → ByteArray, ∀ n, J n = ⟨(intL n).toArray⟩ := ⟨_, fun _ => rfl⟩
  obtain ⟨D, hD⟩ : ∃ D, D = (⟨(sumB (tagIn s g)).toArray⟩ : ByteArray) := ⟨_, rfl⟩
  have hAs : (K { data := #[103, 114, 97, 109] }).size = 6 := by rw [hK]; exact hl3
  have hBs : (K s).size ≤ 1000 := by
    rw [hK]
    show (textL s.data.toList).length ≤ 1000
    omega
  have hIs0 : (J g.gauge).size ≤ 9 := by rw [hJ]; exact (intL_len HO.out.1).2
  have hIs1 : (J g.seq).size ≤ 9 := by rw [hJ]; exact (intL_len HO.out.2.1).2
  have hIs2 : (J g.clock).size ≤ 9 := by rw [hJ]; exact (intL_len HO.out.2.2.1).2
  have hIs3 : (J g.value).size ≤ 9 := by rw [hJ]; exact (intL_len HO.out.2.2.2).2
  have hDs : D.size = 32 := by rw [hD]; exact sumB_len _
  have hABC : (K { data := #[103, 114, 97, 109] } ++ K s ++ J g.gauge ++ J g.seq ++ J g.clock ++ J g.value).data.toList = tagIn s g := by
    rw [hK, hK, hJ, hJ, hJ, hJ, bytes_cat, bytes_cat, bytes_cat, bytes_cat, bytes_cat]
    show (((((textL [103, 114, 97, 109] ++ textL s.data.toList) ++ intL g.gauge) ++ intL g.seq) ++ intL g.clock) ++ intL g.value) = _
    unfold tagIn coreL
    simp only [List.append_assoc]
  have HK : Hid (∀ t, t.size ≤ 300 → ∀ w', MLen w' → Calls Tryd.prog 21 #[.string t] w' fun e w'' => e = .returned (.string (K t)) ∧ Below w'.heap.size w' w'') := Lib.hid (fun t h0 w' h => by rw [hK]; exact text_any _ _ (by omega) h)
  have HJ : Hid (∀ n, I64 n → ∀ w', Calls Tryd.prog 22 #[.int .i64 n] w' fun e w'' => e = .returned (.string (J n)) ∧ Below w'.heap.size w' w'') := Lib.hid (fun n h w' => by rw [hJ]; exact int_any n _ h)
  have HD : Hid (∀ w', Glob w' → Calls Tryd.prog 20 #[.string (K { data := #[103, 114, 97, 109] } ++ K s ++ J g.gauge ++ J g.seq ++ J g.clock ++ J g.value)] w' fun e w'' => e = .returned (.string D) ∧ Below w'.heap.size w' w'') := Lib.hid (fun w' h => by
    rw [hD, ← hABC]
    exact sum_any _ _ h (by rw [ByteArray.size_append, ByteArray.size_append, ByteArray.size_append, ByteArray.size_append, ByteArray.size_append]; omega))
  have hE : D.extract 0 8 = T := by
    rw [hD, HTd.out]
    apply ByteArray.ext
    apply Array.ext'
    simp [tagL]
  have hnE : (T.toList == (D.extract 0 8).toList) = true := by rw [hE]; simp
  have HnE := Lib.hid hnE
  have HE := Lib.hid hE
  clear hK hJ hD hABC hl1 hl3 hnE hE HTd
  have hn1 : ¬ 9223372036854775807 < 6 + (K s).size := by omega
  have hn2 : ¬ 9223372036854775807 < 6 + (K s).size + (J g.gauge).size := by omega
  have hn3 : ¬ 9223372036854775807 < 6 + (K s).size + (J g.gauge).size + (J g.seq).size := by omega
  have hn4 : ¬ 9223372036854775807 < 6 + (K s).size + (J g.gauge).size + (J g.seq).size + (J g.clock).size := by omega
  have hn5 : ¬ 9223372036854775807 < 6 + (K s).size + (J g.gauge).size + (J g.seq).size + (J g.clock).size + (J g.value).size := by omega
  have HS0 : Hid (w3.drew.cell? ⟨w.heap.size, 0, none⟩ = some (.int .i64 g.gauge) ∧ w3.drew.cell? ⟨w.heap.size, 1, none⟩ = some (.int .i64 g.seq) ∧ w3.drew.cell? ⟨w.heap.size, 2, none⟩ = some (.int .i64 g.clock) ∧ w3.drew.cell? ⟨w.heap.size, 3, none⟩ = some (.int .i64 g.value) ∧ w3.drew.cell? ⟨w.heap.size, 4, none⟩ = some (.string g.tag) ∧ w.heap.size < w3.drew.heap.size ∧ Below w.heap.size w w3.drew ∧ Below w3.heap.size w3 w3.drew) := Lib.hid (by
    obtain ⟨h0, h1, h2, h3, h4, h5⟩ := c5_row H3.out
    exact ⟨h0, h1, h2, h3, h4, h5, HB3.out.drew, (Below.refl _ _).drew⟩)
  go_region_held3 (fun w' => w'.cell? ⟨w.heap.size, 0, none⟩ = some (.int .i64 g.gauge) ∧ w'.cell? ⟨w.heap.size, 1, none⟩ = some (.int .i64 g.seq) ∧ w'.cell? ⟨w.heap.size, 2, none⟩ = some (.int .i64 g.clock) ∧ w'.cell? ⟨w.heap.size, 3, none⟩ = some (.int .i64 g.value) ∧ w'.cell? ⟨w.heap.size, 4, none⟩ = some (.string g.tag) ∧ w.heap.size < w'.heap.size ∧ Below w.heap.size w w' ∧ Below w3.heap.size w3 w') (first | assumption | exact HS0.out | exact s5b_step (by assumption) hb) ((first | (go_at_call 21; refine (HK.out _ (by first | exact hs1 | decide) _ (HM.out.up (show _ ∧ _ ∧ _ ∧ _ ∧ _ ∧ _ ∧ Below w.heap.size w _ ∧ _ by assumption).2.2.2.2.2.2.1)).mono ?_; rintro e w' ⟨rfl, hb⟩) | (go_at_call 22; refine (HJ.out _ (by first | exact HO.out.1 | exact HO.out.2.1 | exact HO.out.2.2.1 | exact HO.out.2.2.2) _).mono ?_; rintro e w' ⟨rfl, hb⟩) | (go_at_call 20; refine (HD.out _ (HG.out.below (show _ ∧ _ ∧ _ ∧ _ ∧ _ ∧ _ ∧ Below w.heap.size w _ ∧ _ by assumption).2.2.2.2.2.2.1 HG.out.size)).mono ?_; rintro e w' ⟨rfl, hb⟩)))
  have hS7 := (show _ ∧ _ ∧ _ ∧ _ ∧ _ ∧ _ ∧ Below w.heap.size w w' ∧ Below w3.heap.size w3 w' by assumption).2.2.2.2.2.2
  have R0 := Lib.hid (blk_below H3.out hS7.2 (blk_lt H3.out))
  have RX := Lib.hid (blk_below X3.out hS7.2 (blk_lt X3.out))
  have RY := Lib.hid (blk_below Y3.out hS7.2 (blk_lt Y3.out))
  have HB7 := Lib.hid hS7.1
  clear hS7 H3 X3 Y3 HB3 HS0 HD HK HJ hn1 hn2 hn3 hn4 hn5 hAs hBs hIs0 hIs1 hIs2 hIs3
  have hnE := HnE.out
  have hDs := hDs
  have heq1 := eqG g.gauge g.seq g.clock g.value g.gauge g.seq g.clock g.value g.tag g.tag
  rw [decide_eq_true ⟨rfl, rfl, rfl, rfl, rfl⟩] at heq1
  have heq2 := eqG g.gauge g.seq g.clock g.value g.gauge g.seq g.clock g.value T T
  rw [decide_eq_true ⟨rfl, rfl, rfl, rfl, rfl⟩] at heq2
  go_wp2_with fail
  clear hb
  have HS8 : Hid ((w'.drew.cell? ⟨w.heap.size, 0, none⟩ = some (.int .i64 g.gauge) ∧ w'.drew.cell? ⟨w.heap.size, 1, none⟩ = some (.int .i64 g.seq) ∧ w'.drew.cell? ⟨w.heap.size, 2, none⟩ = some (.int .i64 g.clock) ∧ w'.drew.cell? ⟨w.heap.size, 3, none⟩ = some (.int .i64 g.value) ∧ w'.drew.cell? ⟨w.heap.size, 4, none⟩ = some (.string g.tag) ∧ w.heap.size < w'.drew.heap.size) ∧ (w'.drew.cell? ⟨px, 0, none⟩ = some (.int .i64 g.gauge) ∧ w'.drew.cell? ⟨px, 1, none⟩ = some (.int .i64 g.seq) ∧ w'.drew.cell? ⟨px, 2, none⟩ = some (.int .i64 g.clock) ∧ w'.drew.cell? ⟨px, 3, none⟩ = some (.int .i64 g.value) ∧ w'.drew.cell? ⟨px, 4, none⟩ = some (.string T) ∧ px < w'.drew.heap.size) ∧ (w'.drew.cell? ⟨(px + 1), 0, none⟩ = some (.int .i64 g.gauge) ∧ w'.drew.cell? ⟨(px + 1), 1, none⟩ = some (.int .i64 g.seq) ∧ w'.drew.cell? ⟨(px + 1), 2, none⟩ = some (.int .i64 g.clock) ∧ w'.drew.cell? ⟨(px + 1), 3, none⟩ = some (.int .i64 g.value) ∧ w'.drew.cell? ⟨(px + 1), 4, none⟩ = some (.string g.tag) ∧ px + 1 < w'.drew.heap.size) ∧ Below w.heap.size w w'.drew) := Lib.hid (s15_drew ⟨c5_row R0.out, c5_row RX.out, c5_row RY.out, HB7.out⟩)
  clear R0 RX RY HB7
  go_region_held3 (fun w' => (w'.cell? ⟨w.heap.size, 0, none⟩ = some (.int .i64 g.gauge) ∧ w'.cell? ⟨w.heap.size, 1, none⟩ = some (.int .i64 g.seq) ∧ w'.cell? ⟨w.heap.size, 2, none⟩ = some (.int .i64 g.clock) ∧ w'.cell? ⟨w.heap.size, 3, none⟩ = some (.int .i64 g.value) ∧ w'.cell? ⟨w.heap.size, 4, none⟩ = some (.string g.tag) ∧ w.heap.size < w'.heap.size) ∧ (w'.cell? ⟨px, 0, none⟩ = some (.int .i64 g.gauge) ∧ w'.cell? ⟨px, 1, none⟩ = some (.int .i64 g.seq) ∧ w'.cell? ⟨px, 2, none⟩ = some (.int .i64 g.clock) ∧ w'.cell? ⟨px, 3, none⟩ = some (.int .i64 g.value) ∧ w'.cell? ⟨px, 4, none⟩ = some (.string T) ∧ px < w'.heap.size) ∧ (w'.cell? ⟨(px + 1), 0, none⟩ = some (.int .i64 g.gauge) ∧ w'.cell? ⟨(px + 1), 1, none⟩ = some (.int .i64 g.seq) ∧ w'.cell? ⟨(px + 1), 2, none⟩ = some (.int .i64 g.clock) ∧ w'.cell? ⟨(px + 1), 3, none⟩ = some (.int .i64 g.value) ∧ w'.cell? ⟨(px + 1), 4, none⟩ = some (.string g.tag) ∧ px + 1 < w'.heap.size) ∧ Below w.heap.size w w') (first | assumption | exact HS8.out | exact s15_step (by assumption) hb) ((first | (go_at_call 12; refine (HAt.out.sealx _ (HG.out.below (show (_ ∧ _) ∧ (_ ∧ _) ∧ (_ ∧ _) ∧ Below w.heap.size w _ by assumption).2.2.2 HG.out.size) (HM.out.up (show (_ ∧ _) ∧ (_ ∧ _) ∧ (_ ∧ _) ∧ Below w.heap.size w _ by assumption).2.2.2)).mono ?_; rintro e w' ⟨rfl, hb⟩)))
  have HS9 : Hid ((w'.drew.cell? ⟨w.heap.size, 0, none⟩ = some (.int .i64 g.gauge) ∧ w'.drew.cell? ⟨w.heap.size, 1, none⟩ = some (.int .i64 g.seq) ∧ w'.drew.cell? ⟨w.heap.size, 2, none⟩ = some (.int .i64 g.clock) ∧ w'.drew.cell? ⟨w.heap.size, 3, none⟩ = some (.int .i64 g.value) ∧ w'.drew.cell? ⟨w.heap.size, 4, none⟩ = some (.string g.tag) ∧ w.heap.size < w'.drew.heap.size) ∧ (w'.drew.cell? ⟨px, 0, none⟩ = some (.int .i64 g.gauge) ∧ w'.drew.cell? ⟨px, 1, none⟩ = some (.int .i64 g.seq) ∧ w'.drew.cell? ⟨px, 2, none⟩ = some (.int .i64 g.clock) ∧ w'.drew.cell? ⟨px, 3, none⟩ = some (.int .i64 g.value) ∧ w'.drew.cell? ⟨px, 4, none⟩ = some (.string T) ∧ px < w'.drew.heap.size) ∧ (w'.drew.cell? ⟨(px + 1), 0, none⟩ = some (.int .i64 g.gauge) ∧ w'.drew.cell? ⟨(px + 1), 1, none⟩ = some (.int .i64 g.seq) ∧ w'.drew.cell? ⟨(px + 1), 2, none⟩ = some (.int .i64 g.clock) ∧ w'.drew.cell? ⟨(px + 1), 3, none⟩ = some (.int .i64 g.value) ∧ w'.drew.cell? ⟨(px + 1), 4, none⟩ = some (.string g.tag) ∧ px + 1 < w'.drew.heap.size) ∧ Below w.heap.size w w'.drew) := Lib.hid (s15_drew (by assumption))
  have HBl : Hid (Below w.heap.size w w') := Lib.hid (show (w'.cell? ⟨w.heap.size, 0, none⟩ = some (.int .i64 g.gauge) ∧ w'.cell? ⟨w.heap.size, 1, none⟩ = some (.int .i64 g.seq) ∧ w'.cell? ⟨w.heap.size, 2, none⟩ = some (.int .i64 g.clock) ∧ w'.cell? ⟨w.heap.size, 3, none⟩ = some (.int .i64 g.value) ∧ w'.cell? ⟨w.heap.size, 4, none⟩ = some (.string g.tag) ∧ w.heap.size < w'.heap.size) ∧ (_ ∧ _) ∧ (_ ∧ _) ∧ Below w.heap.size w w' by assumption).2.2.2
  clear heq1 heq2 HS8
  have hnX := HAt.out.neX
  have hnY := HAt.out.neY
  have heqg := eqG g.gauge g.seq g.clock g.value g.gauge g.seq g.clock g.value g.tag T
  have hqq : decide (g.gauge = g.gauge ∧ g.seq = g.seq ∧ g.clock = g.clock ∧ g.value = g.value ∧ g.tag = T) = bq := by
    rw [← HAt.out.eqT]
    simp
  rw [hqq] at heqg
  clear hqq
  have HAx := Lib.hid HAt.out.gen
  have HBx := Lib.hid HAt.out.byt
  have hgT := HAt.out.gBT
  have hgg := HAt.out.gBg
  have hT8 : T.size ≤ 300 := by have := HAt.out.hT; omega
  clear HAt
  cases bq
  case true =>
    cases bx <;> cases bg
    all_goals simp only [Bool.not_true, Bool.not_false, Bool.and_false, Bool.and_self] at hnX hnY hgg
    all_goals (
      go_wp2_with fail
      go_region_held3 (fun w' => (w'.cell? ⟨w.heap.size, 0, none⟩ = some (.int .i64 g.gauge) ∧ w'.cell? ⟨w.heap.size, 1, none⟩ = some (.int .i64 g.seq) ∧ w'.cell? ⟨w.heap.size, 2, none⟩ = some (.int .i64 g.clock) ∧ w'.cell? ⟨w.heap.size, 3, none⟩ = some (.int .i64 g.value) ∧ w'.cell? ⟨w.heap.size, 4, none⟩ = some (.string g.tag) ∧ w.heap.size < w'.heap.size) ∧ (w'.cell? ⟨px, 0, none⟩ = some (.int .i64 g.gauge) ∧ w'.cell? ⟨px, 1, none⟩ = some (.int .i64 g.seq) ∧ w'.cell? ⟨px, 2, none⟩ = some (.int .i64 g.clock) ∧ w'.cell? ⟨px, 3, none⟩ = some (.int .i64 g.value) ∧ w'.cell? ⟨px, 4, none⟩ = some (.string T) ∧ px < w'.heap.size) ∧ (w'.cell? ⟨(px + 1), 0, none⟩ = some (.int .i64 g.gauge) ∧ w'.cell? ⟨(px + 1), 1, none⟩ = some (.int .i64 g.seq) ∧ w'.cell? ⟨(px + 1), 2, none⟩ = some (.int .i64 g.clock) ∧ w'.cell? ⟨(px + 1), 3, none⟩ = some (.int .i64 g.value) ∧ w'.cell? ⟨(px + 1), 4, none⟩ = some (.string g.tag) ∧ px + 1 < w'.heap.size) ∧ Below w.heap.size w w') (first | assumption | exact HS9.out | exact s15_step (by assumption) hb) ((first | (go_at_call 14; refine (HAx.out _ _ (HG.out.below (show (_ ∧ _) ∧ (_ ∧ _) ∧ (_ ∧ _) ∧ Below w.heap.size w _ by assumption).2.2.2 HG.out.size) (HM.out.up (show (_ ∧ _) ∧ (_ ∧ _) ∧ (_ ∧ _) ∧ Below w.heap.size w _ by assumption).2.2.2)).mono ?_; rintro e w' ⟨rfl, hb⟩) | (go_at_call 18; refine (HBx.out _ (by first | exact hT8 | exact hs2) _ (HM.out.up (show (_ ∧ _) ∧ (_ ∧ _) ∧ (_ ∧ _) ∧ Below w.heap.size w _ by assumption).2.2.2)).mono ?_; rintro e w' ⟨rfl, hb⟩))))
    all_goals (
      have HBf := Lib.hid (show (_ ∧ _) ∧ (_ ∧ _) ∧ (_ ∧ _) ∧ Below w.heap.size w _ by assumption).2.2.2
      go_wp2_with fail
      go_ret
      exact ⟨rfl, HBf.out⟩)
  case false =>
    simp only [Bool.false_and] at hgg
    clear hnY
    have hS9 := HS9.out
    have hxx : (bx == bx) = true := by simp
    go_wp2_with fail
    refine wp_region_noPanic ?_
    refine wp_region_held_drew (S := fun w' => (w'.cell? ⟨w.heap.size, 0, none⟩ = some (.int .i64 g.gauge) ∧ w'.cell? ⟨w.heap.size, 1, none⟩ = some (.int .i64 g.seq) ∧ w'.cell? ⟨w.heap.size, 2, none⟩ = some (.int .i64 g.clock) ∧ w'.cell? ⟨w.heap.size, 3, none⟩ = some (.int .i64 g.value) ∧ w'.cell? ⟨w.heap.size, 4, none⟩ = some (.string g.tag) ∧ w.heap.size < w'.heap.size) ∧ (w'.cell? ⟨px, 0, none⟩ = some (.int .i64 g.gauge) ∧ w'.cell? ⟨px, 1, none⟩ = some (.int .i64 g.seq) ∧ w'.cell? ⟨px, 2, none⟩ = some (.int .i64 g.clock) ∧ w'.cell? ⟨px, 3, none⟩ = some (.int .i64 g.value) ∧ w'.cell? ⟨px, 4, none⟩ = some (.string T) ∧ px < w'.heap.size) ∧ (w'.cell? ⟨(px + 1), 0, none⟩ = some (.int .i64 g.gauge) ∧ w'.cell? ⟨(px + 1), 1, none⟩ = some (.int .i64 g.seq) ∧ w'.cell? ⟨(px + 1), 2, none⟩ = some (.int .i64 g.clock) ∧ w'.cell? ⟨(px + 1), 3, none⟩ = some (.int .i64 g.value) ∧ w'.cell? ⟨(px + 1), 4, none⟩ = some (.string g.tag) ∧ px + 1 < w'.heap.size) ∧ Below w.heap.size w w') (by kernel_rfl) hS9 (fun hHeld => ?_)
    refine' wpAnyH_take (i := 0) (v := _) (by simp only [List.getElem?_toArray, List.getElem?_cons_zero]; exact rfl) (by kernel_rfl) (by kernel_rfl) (by kernel_rfl) (fun _ _ _ h => h) (Or.inl ⟨by rfl, ?y0x1⟩) hHeld ?r0x1
    case y0x1 => (intro w hSw; (try dsimp only at hSw); go_simp; try with_reducible rfl)
    try simp only [Act.put, List.setIfInBounds_toArray, List.set_cons_zero, List.set_cons_succ]
    refine' wpAnyH_take (i := 1) (v := _) (by simp only [List.getElem?_toArray, List.getElem?_cons_succ, List.getElem?_cons_zero]; exact rfl) (by kernel_rfl) (by kernel_rfl) (by kernel_rfl) (fun _ _ _ h => h) (Or.inl ⟨by rfl, ?y1x2⟩) hHeld ?r1x2
    case y1x2 => (intro w hSw; (try dsimp only at hSw); go_simp; try with_reducible rfl)
    try simp only [Act.put, List.setIfInBounds_toArray, List.set_cons_zero, List.set_cons_succ]
    refine' wpAnyH_take (i := 2) (v := _) (by simp only [List.getElem?_toArray, List.getElem?_cons_succ, List.getElem?_cons_zero]; exact rfl) (by kernel_rfl) (by kernel_rfl) (by kernel_rfl) (fun _ _ _ h => h) (Or.inl ⟨by rfl, ?y2x3⟩) hHeld ?r2x3
    case y2x3 => (intro w hSw; (try dsimp only at hSw); go_simp; try with_reducible rfl)
    try simp only [Act.put, List.setIfInBounds_toArray, List.set_cons_zero, List.set_cons_succ]
    refine' wpAnyH_take (i := 3) (v := _) (by simp only [List.getElem?_toArray, List.getElem?_cons_succ, List.getElem?_cons_zero]; exact rfl) (by kernel_rfl) (by kernel_rfl) (by kernel_rfl) (fun _ _ _ h => h) (Or.inl ⟨by rfl, ?y3x4⟩) hHeld ?r3x4
    case y3x4 => (intro w hSw; (try dsimp only at hSw); go_simp; try with_reducible rfl)
    try simp only [Act.put, List.setIfInBounds_toArray, List.set_cons_zero, List.set_cons_succ]
    refine' wpAnyH_take (i := 5) (v := _) (by simp only [List.getElem?_toArray, List.getElem?_cons_succ, List.getElem?_cons_zero]; exact rfl) (by kernel_rfl) (by kernel_rfl) (by kernel_rfl) (fun _ _ _ h => h) (Or.inl ⟨by rfl, ?y5x5⟩) hHeld ?r5x5
    case y5x5 => (intro w hSw; (try dsimp only at hSw); go_simp; try with_reducible rfl)
    try simp only [Act.put, List.setIfInBounds_toArray, List.set_cons_zero, List.set_cons_succ]
    refine wpAnyH_ready (rs := [4]) (by kernel_rfl) (by simp) ?_
    refine AllReadyH.cons (by simp only [List.getElem?_toArray, List.getElem?_cons_succ, List.getElem?_cons_zero]; exact rfl) (fun K hK => ?_) AllReadyH.nil
    go_simp
    refine (HAx.out _ _ (HG.out.below hHeld.2.2.2 HG.out.size) (HM.out.up hHeld.2.2.2)).mono ?_
    rintro e w' ⟨rfl, hb⟩
    refine hK.out _ _ (s15_step hHeld hb) (fun hHeld => ?_)
    clear hK K hb
    try simp only [Act.put, List.setIfInBounds_toArray, List.set_cons_zero, List.set_cons_succ]
    refine wpAnyH_ready (rs := [6]) (by kernel_rfl) (by simp) ?_
    refine AllReadyH.cons (by simp only [List.getElem?_toArray, List.getElem?_cons_succ, List.getElem?_cons_zero]; exact rfl) (fun K hK => ?_) AllReadyH.nil
    go_simp
    refine (HBx.out _ (by first | exact hT8 | exact hs2) _ (HM.out.up hHeld.2.2.2)).mono ?_
    rintro e w' ⟨rfl, hb⟩
    refine hK.out _ _ (s15_step hHeld hb) (fun hHeld => ?_)
    clear hK K hb
    try simp only [Act.put, List.setIfInBounds_toArray, List.set_cons_zero, List.set_cons_succ]
    refine' wpAnyH_take (i := 7) (v := _) (by simp only [List.getElem?_toArray, List.getElem?_cons_succ, List.getElem?_cons_zero]; exact rfl) (by kernel_rfl) (by kernel_rfl) (by kernel_rfl) (fun _ _ _ h => h) (Or.inl ⟨by rfl, ?y7x6⟩) hHeld ?r7x6
    case y7x6 => (intro w hSw; (try dsimp only at hSw); go_simp; try with_reducible rfl)
    try simp only [Act.put, List.setIfInBounds_toArray, List.set_cons_zero, List.set_cons_succ]
    refine' wpAnyH_take (i := 8) (v := _) (by simp only [List.getElem?_toArray, List.getElem?_cons_succ, List.getElem?_cons_zero]; exact rfl) (by kernel_rfl) (by kernel_rfl) (by kernel_rfl) (fun _ _ _ h => h) (Or.inl ⟨by rfl, ?y8x7⟩) hHeld ?r8x7
    case y8x7 => (intro w hSw; (try dsimp only at hSw); go_simp; try with_reducible rfl)
    try simp only [Act.put, List.setIfInBounds_toArray, List.set_cons_zero, List.set_cons_succ]
    refine' wpAnyH_take (i := 9) (v := _) (by simp only [List.getElem?_toArray, List.getElem?_cons_succ, List.getElem?_cons_zero]; exact rfl) (by kernel_rfl) (by kernel_rfl) (by kernel_rfl) (fun _ _ _ h => h) (Or.inl ⟨by rfl, ?y9x8⟩) hHeld ?r9x8
    case y9x8 => (intro w hSw; (try dsimp only at hSw); go_simp; try with_reducible rfl)
    try simp only [Act.put, List.setIfInBounds_toArray, List.set_cons_zero, List.set_cons_succ]
    refine' wpAnyH_take (i := 10) (v := _) (by simp only [List.getElem?_toArray, List.getElem?_cons_succ, List.getElem?_cons_zero]; exact rfl) (by kernel_rfl) (by kernel_rfl) (by kernel_rfl) (fun _ _ _ h => h) (Or.inl ⟨by rfl, ?y10x9⟩) hHeld ?r10x9
    case y10x9 => (intro w hSw; (try dsimp only at hSw); go_simp; try with_reducible rfl)
    try simp only [Act.put, List.setIfInBounds_toArray, List.set_cons_zero, List.set_cons_succ]
    refine' wpAnyH_take (i := 11) (v := _) (by simp only [List.getElem?_toArray, List.getElem?_cons_succ, List.getElem?_cons_zero]; exact rfl) (by kernel_rfl) (by kernel_rfl) (by kernel_rfl) (fun _ _ _ h => h) (Or.inl ⟨by rfl, ?y11x10⟩) hHeld ?r11x10
    case y11x10 => (intro w hSw; (try dsimp only at hSw); go_simp; try with_reducible rfl)
    try simp only [Act.put, List.setIfInBounds_toArray, List.set_cons_zero, List.set_cons_succ]
    refine' wpAnyH_take (i := 12) (v := _) (by simp only [List.getElem?_toArray, List.getElem?_cons_succ, List.getElem?_cons_zero]; exact rfl) (by kernel_rfl) (by kernel_rfl) (by kernel_rfl) (fun _ _ _ h => h) (Or.inl ⟨by rfl, ?y12x11⟩) hHeld ?r12x11
    case y12x11 => (intro w hSw; (try dsimp only at hSw); go_simp; try with_reducible rfl)
    try simp only [Act.put, List.setIfInBounds_toArray, List.set_cons_zero, List.set_cons_succ]
    refine' wpAnyH_take (i := 14) (v := _) (by simp only [List.getElem?_toArray, List.getElem?_cons_succ, List.getElem?_cons_zero]; exact rfl) (by kernel_rfl) (by kernel_rfl) (by kernel_rfl) (fun _ _ _ h => h) (Or.inl ⟨by rfl, ?y14x12⟩) hHeld ?r14x12
    case y14x12 => (intro w hSw; (try dsimp only at hSw); go_simp; try with_reducible rfl)
    try simp only [Act.put, List.setIfInBounds_toArray, List.set_cons_zero, List.set_cons_succ]
    refine' wpAnyH_take (i := 15) (v := _) (by simp only [List.getElem?_toArray, List.getElem?_cons_succ, List.getElem?_cons_zero]; exact rfl) (by kernel_rfl) (by kernel_rfl) (by kernel_rfl) (fun _ _ _ h => h) (Or.inl ⟨by rfl, ?y15x13⟩) hHeld ?r15x13
    case y15x13 => (intro w hSw; (try dsimp only at hSw); go_simp; try with_reducible rfl)
    try simp only [Act.put, List.setIfInBounds_toArray, List.set_cons_zero, List.set_cons_succ]
    refine' wpAnyH_take (i := 16) (v := _) (by simp only [List.getElem?_toArray, List.getElem?_cons_succ, List.getElem?_cons_zero]; exact rfl) (by kernel_rfl) (by kernel_rfl) (by kernel_rfl) (fun _ _ _ h => h) (Or.inl ⟨by rfl, ?y16x14⟩) hHeld ?r16x14
    case y16x14 => (intro w hSw; (try dsimp only at hSw); go_simp; try with_reducible rfl)
    try simp only [Act.put, List.setIfInBounds_toArray, List.set_cons_zero, List.set_cons_succ]
    refine wpAnyH_ready (rs := [13]) (by kernel_rfl) (by simp) ?_
    refine AllReadyH.cons (by simp only [List.getElem?_toArray, List.getElem?_cons_succ, List.getElem?_cons_zero]; exact rfl) (fun K hK => ?_) AllReadyH.nil
    go_simp
    refine (HAx.out _ _ (HG.out.below hHeld.2.2.2 HG.out.size) (HM.out.up hHeld.2.2.2)).mono ?_
    rintro e w' ⟨rfl, hb⟩
    refine hK.out _ _ (s15_step hHeld hb) (fun hHeld => ?_)
    clear hK K hb
    try simp only [Act.put, List.setIfInBounds_toArray, List.set_cons_zero, List.set_cons_succ]
    refine' wpAnyH_take (i := 17) (v := _) (by simp only [List.getElem?_toArray, List.getElem?_cons_succ, List.getElem?_cons_zero]; exact rfl) (by kernel_rfl) (by kernel_rfl) (by kernel_rfl) (fun _ _ _ h => h) (Or.inl ⟨by rfl, ?y17x15⟩) hHeld ?r17x15
    case y17x15 => (intro w hSw; (try dsimp only at hSw); go_simp; try with_reducible rfl)
    try simp only [Act.put, List.setIfInBounds_toArray, List.set_cons_zero, List.set_cons_succ]
    refine wpAnyH_take (i := 18) (v := undef) (by simp only [List.getElem?_toArray, List.getElem?_cons_succ, List.getElem?_cons_zero]; exact rfl) (by kernel_rfl) (by kernel_rfl) (by kernel_rfl) (fun _ _ _ h => h) (Or.inr ⟨by rfl, rfl⟩) hHeld ?_
    try simp only [Act.put, List.setIfInBounds_toArray, List.set_cons_zero, List.set_cons_succ]
    refine wpAnyH_take (i := 19) (v := undef) (by simp only [List.getElem?_toArray, List.getElem?_cons_succ, List.getElem?_cons_zero]; exact rfl) (by kernel_rfl) (by kernel_rfl) (by kernel_rfl) (fun _ _ _ h => h) (Or.inr ⟨by rfl, rfl⟩) hHeld ?_
    try simp only [Act.put, List.setIfInBounds_toArray, List.set_cons_zero, List.set_cons_succ]
    refine wpAnyH_take (i := 20) (v := undef) (by simp only [List.getElem?_toArray, List.getElem?_cons_succ, List.getElem?_cons_zero]; exact rfl) (by kernel_rfl) (by kernel_rfl) (by kernel_rfl) (fun _ _ _ h => h) (Or.inr ⟨by rfl, rfl⟩) hHeld ?_
    try simp only [Act.put, List.setIfInBounds_toArray, List.set_cons_zero, List.set_cons_succ]
    refine' wpAnyH_take (i := 21) (v := _) (by simp only [List.getElem?_toArray, List.getElem?_cons_succ, List.getElem?_cons_zero]; exact rfl) (by kernel_rfl) (by kernel_rfl) (by kernel_rfl) (fun _ _ _ h => h) (Or.inl ⟨by rfl, ?y21x16⟩) hHeld ?r21x16
    case y21x16 => (intro w hSw; (try dsimp only at hSw); go_simp; try with_reducible rfl)
    try simp only [Act.put, List.setIfInBounds_toArray, List.set_cons_zero, List.set_cons_succ]
    refine' wpAnyH_take (i := 22) (v := _) (by simp only [List.getElem?_toArray, List.getElem?_cons_succ, List.getElem?_cons_zero]; exact rfl) (by kernel_rfl) (by kernel_rfl) (by kernel_rfl) (fun _ _ _ h => h) (Or.inl ⟨by rfl, ?y22x17⟩) hHeld ?r22x17
    case y22x17 => (intro w hSw; (try dsimp only at hSw); go_simp; try with_reducible rfl)
    try simp only [Act.put, List.setIfInBounds_toArray, List.set_cons_zero, List.set_cons_succ]
    refine' wpAnyH_take (i := 23) (v := _) (by simp only [List.getElem?_toArray, List.getElem?_cons_succ, List.getElem?_cons_zero]; exact rfl) (by kernel_rfl) (by kernel_rfl) (by kernel_rfl) (fun _ _ _ h => h) (Or.inl ⟨by rfl, ?y23x18⟩) hHeld ?r23x18
    case y23x18 => (intro w hSw; (try dsimp only at hSw); go_simp; try with_reducible rfl)
    try simp only [Act.put, List.setIfInBounds_toArray, List.set_cons_zero, List.set_cons_succ]
    refine' wpAnyH_take (i := 24) (v := _) (by simp only [List.getElem?_toArray, List.getElem?_cons_succ, List.getElem?_cons_zero]; exact rfl) (by kernel_rfl) (by kernel_rfl) (by kernel_rfl) (fun _ _ _ h => h) (Or.inl ⟨by rfl, ?y24x19⟩) hHeld ?r24x19
    case y24x19 => (intro w hSw; (try dsimp only at hSw); go_simp; try with_reducible rfl)
    try simp only [Act.put, List.setIfInBounds_toArray, List.set_cons_zero, List.set_cons_succ]
    refine wpAnyH_done (by kernel_rfl) ?_ _
    refine NoPanic.normal ?_
    have HBf := Lib.hid hHeld.2.2.2
    go_wp2_with fail
    go_ret
    exact ⟨rfl, HBf.out⟩
end Go.Proofs.YtmlfkhpmgjcliaaDoor
