/- bournelaw44.small returns true. -/
import Derived.Test.YthijckdablkofaaDDue
import Derived.Laws.StructEq
namespace Go.Proofs.Ythijckdablkofaa
open Go.RowKit Go.Maps
/-- v is a slice of the calls l, in a block from B on -/
def CFrom (B : Nat) (v : Value) (l : List CV) (w : World) : Prop :=
  ∃ a c, v = .slice a l.length c ∧ ∀ j x, l[j]? = some x → ∃ b, a = some ⟨b, 0, none⟩ ∧ B ≤ b ∧ b < w.heap.size ∧ w.rangeAt b (j * 4) (cCl x)
theorem CFrom.of_owns {w : World} {base n : Nat} {v : Value} {l : List CV} (h : w.ownsRow base 29 4 v n (cRow l)) : CFrom base v l w := by
  obtain ⟨a, c, rfl, hc⟩ := CArgs.of_owns h
  refine ⟨a, c, rfl, fun j x hj => ?_⟩
  obtain ⟨b, h1, h2, h3⟩ := hc j x hj
  exact ⟨b, h1, (h.lt b (by rw [h1]; rfl)).1, h2, h3⟩
theorem CFrom.mv {B pb mb : Nat} {v : Value} {l : List CV} {w w' : World} (h : CFrom B v l w) (hv : Mv pb mb w w') (h1 : pb < B) (h2 : mb < B) : CFrom B v l w' := by
  obtain ⟨a, c, rfl, hc⟩ := h
  refine ⟨a, c, rfl, fun j x hj => ?_⟩
  obtain ⟨b, e1, e2, e3, e4⟩ := hc j x hj
  refine ⟨b, e1, e2, Nat.lt_of_lt_of_le e3 hv.size, fun i u hi => ?_⟩
  have hb := hv.block b e3 (by omega) (by omega)
  exact (World.cell?_of_block (a := ⟨b, j * 4 + i, none⟩) hb).trans (e4 i u hi)
theorem CFrom.below {B : Nat} {v : Value} {l : List CV} {w w' : World} (h : CFrom B v l w) (hb : Below w.heap.size w w') : CFrom B v l w' := by
  obtain ⟨a, c, rfl, hc⟩ := h
  refine ⟨a, c, rfl, fun j x hj => ?_⟩
  obtain ⟨b, e1, e2, e3, e4⟩ := hc j x hj
  exact ⟨b, e1, e2, Nat.lt_of_lt_of_le e3 hb.size, fun i u hi => (hb.cell (p := ⟨b, j * 4 + i, none⟩) e3).trans (e4 i u hi)⟩
theorem range4 {w : World} {b o : Nat} {x : CV} (h : w.rangeAt b o (cCl x)) : w.cell? ⟨b, o, none⟩ = some (.int .i64 x.town) ∧ w.cell? ⟨b, o + 1, none⟩ = some (.int .i64 x.level) ∧ w.cell? ⟨b, o + 2, none⟩ = some (.int .i64 x.number) ∧ w.cell? ⟨b, o + 3, none⟩ = some (.int .i64 x.warden) :=
  ⟨h 0 _ rfl, h 1 _ rfl, h 2 _ rfl, h 3 _ rfl⟩
theorem smallFacts : ∃ s1 s2 s3 : WS, raiseS (newS 2) 3 3 10 = (1, s1) ∧ dueS s1 10 = [⟨3, 3, 1, 0⟩] ∧ dueS s1 13 = [⟨3, 3, 1, 0⟩, ⟨3, 3, 1, 1⟩] ∧ raiseS s1 3 2 20 = (2, s2) ∧ ackS s2 ⟨3, 0, 1, 0⟩ = (false, s2) ∧
    awaitsS s2 ⟨3, 0, 2, 1⟩ = true ∧ ackS s2 ⟨3, 0, 2, 1⟩ = (true, s3) ∧ awaitsS s3 ⟨3, 0, 2, 1⟩ = false ∧ dueS s3 20 = [] ∧ WOk s1 ∧ WOk s2 ∧ WOk s3 ∧ s1.r ≤ 10 ∧ s2.r ≤ 10 := by
  have h0 := newS_ok (n := 2) (by decide) (by decide)
  have h1 := raise_ok h0 3 3 10
  have h2 := raise_ok h1 3 2 20
  have h3 := ack_ok h2 ⟨3, 0, 2, 1⟩
  exact ⟨⟨2, 1, [(3, ⟨3, 1, 10, false⟩)]⟩, ⟨2, 2, [(3, ⟨2, 2, 20, false⟩)]⟩, ⟨2, 2, [(3, ⟨2, 2, 20, true⟩)]⟩, rfl, rfl, rfl, rfl, rfl, rfl, rfl, rfl, rfl, h1, h2, h3, by decide, by decide⟩
theorem eqC (a b c d a' b' c' d' : Int) (w : World) : (Op.equalIn 10000 29 (.agg #[.int .i64 a, .int .i64 b, .int .i64 c, .int .i64 d]) (.agg #[.int .i64 a', .int .i64 b', .int .i64 c', .int .i64 d'])).run Try.prog w = .ok (decide (a = a' ∧ b = b' ∧ c = c' ∧ d = d')) w := by
  have u3 := Try.underlying3
  have a3 := Try.isAgg3
  have z3 := Try.sizeOf3
  have hS : Try.prog.underlying 29 = some (.struct (Try.prog.fieldsOf 29)) := by kernel_rfl
  have hp : Try.prog.stoodInHeld 29 = false := by kernel_rfl
  rw [show (10000 : Nat) = 9999 + 1 from rfl, run_equalIn_agg w 9999 29 _ _ hS hp]
  simp only [Program.fieldsOf, Try.underlying29]
  go_simp
  by_cases h1 : a = a' <;> by_cases h2 : b = b' <;> by_cases h3 : c = c' <;> by_cases h4 : d = d' <;> simp [h1, h2, h3, h4]
set_option maxRecDepth 100000 in
set_option maxHeartbeats 4000000 in
theorem small_any (w : World) :
    Calls Try.prog 8 #[] w fun e w' => e = .returned (.bool true) ∧ Below w.heap.size w w' := by
  obtain ⟨s1, s2, s3, f1, f2, f3, f4, f5, f6, f7, f8, f9, o1, o2, o3, r1, r2⟩ := smallFacts
  have F1 := Lib.hid f1
  have F2 := Lib.hid f2
  have F3 := Lib.hid f3
  have F4 := Lib.hid f4
  have F5 := Lib.hid f5
  have F6 := Lib.hid f6
  have F7 := Lib.hid f7
  have F8 := Lib.hid f8
  have F9 := Lib.hid f9
  have O1 := Lib.hid o1
  have O2 := Lib.hid o2
  have O3 := Lib.hid o3
  have l1 := m_len o1
  have l2 := m_len o2
  clear f1 f2 f3 f4 f5 f6 f7 f8 f9 o1 o2 o3
  go_enter Try.func8, Try.ntmps8
  go_wp2_with fail
  refine (new_any 2 (by decide) (by decide) _).mono ?_
  rintro e w1 ⟨rfl, hP, hb⟩
  have hlt := hP.lt
  have HB1 := Lib.hid hb
  have HP1 := Lib.hid hP
  have hpb : w.heap.size ≤ w.heap.size + 1 := Nat.le_succ _
  generalize w.heap.size + 1 = pb at *
  clear hb hP
  go_wp2_with fail
  refine (raise_any pb w.heap.size (newS 2) 3 3 10 _ HP1.out (by decide) (by decide)).mono ?_
  rintro e w2 ⟨rfl, hP, hv⟩
  rw [F1.out] at hP ⊢
  have HP2 := Lib.hid hP
  have HV2 := Lib.hid hv
  clear hP hv HP1 F1
  go_wp2_with fail
  refine (due_any pb _ s1 10 _ HP2.out O1.out (by unfold I64; omega)).mono ?_
  rintro e w3 ⟨v1, rfl, hown, hb⟩
  rw [F2.out] at hown
  have hB3 : w2.heap.size ≤ w3.heap.size := hb.size
  obtain ⟨a1, d1, rfl, _⟩ := CFrom.of_owns hown
  have HP3 := Lib.hid (HP2.out.below hb)
  have HV3 := Lib.hid (HV2.out.trans (Mv.of_below hb))
  have hlt3 := HP3.out.lt
  clear hown hb HP2 HV2 F2
  go_wp2_with fail
  refine (due_any pb _ s1 13 _ HP3.out O1.out (by unfold I64; omega)).mono ?_
  rintro e w4 ⟨v2, rfl, hown, hb⟩
  rw [F3.out] at hown
  have HT4 := Lib.hid (CFrom.of_owns hown)
  obtain ⟨a2, d2, rfl, _⟩ := HT4.out
  have HP4 := Lib.hid (HP3.out.below hb)
  have HV4 := Lib.hid (HV3.out.trans (Mv.of_below hb))
  clear hown hb HP3 HV3 F3
  go_wp2_with fail
  refine (raise_any pb _ s1 3 2 20 _ HP4.out (by omega) (by omega)).mono ?_
  rintro e w5 ⟨rfl, hP, hv⟩
  rw [F4.out] at hP ⊢
  have HP5 := Lib.hid hP
  have HV5 := Lib.hid (HV4.out.trans hv)
  have HT5 := Lib.hid (HT4.out.mv hv hlt3.1 hlt3.2)
  clear hP hv HP4 HV4 HT4 F4
  go_wp2_with fail
  refine (ack_any pb _ s2 ⟨3, 0, 1, 0⟩ _ HP5.out (by unfold COk I64; decide) (by omega)).mono ?_
  rintro e w6 ⟨rfl, hP, hv⟩
  rw [F5.out] at hP ⊢
  have hB6 := (Below.refl w6.heap.size w6).alloc (Nat.le_refl _) (.cells #[.int .i64 3, .int .i64 0, .int .i64 2, .int .i64 1] 29)
  have HP6 := Lib.hid (hP.below hB6)
  have HV6 := Lib.hid ((HV5.out.trans hv).trans (Mv.of_below hB6))
  have HT6 := Lib.hid ((HT5.out.mv hv hlt3.1 hlt3.2).below hB6)
  have HC6 := Lib.hid (heap_alloc_new w6 (.cells #[.int .i64 3, .int .i64 0, .int .i64 2, .int .i64 1] 29))
  have hplt := hP.lt
  clear hP hv HP5 HV5 HT5 F5 hB6
  go_upto_region 10 with fail
  generalize w6.alloc (.cells #[.int .i64 3, .int .i64 0, .int .i64 2, .int .i64 1] 29) = w7 at *
  generalize w6.heap.size = pc at *
  obtain ⟨y0, y1, y2, y3⟩ := row4 HC6.out
  obtain ⟨a5, d5, he, hel⟩ := HT6.out
  obtain ⟨b5, ha, hb5, hbl, hrg⟩ := hel 1 ⟨3, 3, 1, 1⟩ rfl
  simp only [Value.slice.injEq] at he
  obtain ⟨rfl, _, rfl⟩ := he
  subst ha
  obtain ⟨q0, q1, q2, q3⟩ := range4 hrg
  have heq := eqC 3 3 1 1 3 3 1 1
  rw [decide_eq_true ⟨rfl, rfl, rfl, rfl⟩] at heq
  clear hel hrg hb5 hbl HT6
  go_wp2_with fail
  refine (awaits_any pb _ s2 ⟨3, 0, 2, 1⟩ _ HP6.out (by unfold COk I64; decide)).mono ?_
  rintro e w8 ⟨rfl, hb⟩
  rw [F6.out]
  have HP8 := Lib.hid (HP6.out.below hb)
  have HV8 := Lib.hid (HV6.out.trans (Mv.of_below hb))
  have HC8 := Lib.hid (blk_below HC6.out hb (blk_lt HC6.out))
  clear y0 y1 y2 y3 q0 q1 q2 q3 hb HP6 HV6 HC6 F6
  obtain ⟨y0, y1, y2, y3⟩ := row4 HC8.out
  go_wp2_with fail
  refine (ack_any pb _ s2 ⟨3, 0, 2, 1⟩ _ HP8.out (by unfold COk I64; decide) (by omega)).mono ?_
  rintro e w9 ⟨rfl, hP, hv⟩
  rw [F7.out] at hP ⊢
  have HP9 := Lib.hid hP
  have HV9 := Lib.hid (HV8.out.trans hv)
  have HC9 := Lib.hid ((hv.block pc (blk_lt HC8.out) (by omega) (by omega)).trans HC8.out)
  clear y0 y1 y2 y3 hP hv HP8 HV8 HC8 F7
  obtain ⟨y0, y1, y2, y3⟩ := row4 HC9.out
  go_wp2_with fail
  refine (awaits_any pb _ s3 ⟨3, 0, 2, 1⟩ _ HP9.out (by unfold COk I64; decide)).mono ?_
  rintro e wa ⟨rfl, hb⟩
  rw [F8.out]
  have HPa := Lib.hid (HP9.out.below hb)
  have HVa := Lib.hid (HV9.out.trans (Mv.of_below hb))
  clear y0 y1 y2 y3 hb HP9 HV9 HC9 F8
  go_wp2_with fail
  refine (due_any pb _ s3 20 _ HPa.out O3.out (by unfold I64; omega)).mono ?_
  rintro e wb ⟨v3, rfl, hown, hb⟩
  rw [F9.out] at hown
  obtain ⟨a3, d3, rfl, _⟩ := CFrom.of_owns hown
  have HVb := Lib.hid (HVa.out.trans (Mv.of_below hb))
  clear hown hb HPa HVa F9
  go_wp2_with fail
  refine (new_none 0 (Or.inl (by decide)) _).mono ?_
  rintro e wc ⟨rfl, rfl⟩
  go_wp2_with fail
  go_ret
  exact ⟨rfl, HVb.out.below HB1.out (by omega) (Nat.le_refl _) HB1.out.size⟩
end Go.Proofs.Ythijckdablkofaa
